/- law17.kids: the kids of the law BlockStacks. -/
import Derived.Test.YtbjmncgfbdkidaaBlockQ
import Derived.Test.YtbjmncgfbdkidaaBlockO
namespace Go.Proofs.Ytbjmncgfbdkidaa
open Go.RowKit
set_option linter.unusedSimpArgs false
set_option linter.unusedVariables false
-- below_from_drew
attribute [local go_sem] ov_cell_same ov_cell_other ov_frozen_same ov_frozen_other ov_size ov_setCell_same ov_setCell_other cell_alloc_old frozen_alloc_old setCell_alloc_old old_alloc old_ov old_drew old_drewN old_setCell
attribute [local go_sem ↓] run_max2 run_min2

/-- Kids that came in. -/
def LKidsIn (w : World) (a : Option Addr) (xs : List KidZ) : Prop :=
  xs.length ≤ 9223372036854775807 ∧ (0 < xs.length → ∃ b off, a = some ⟨b, off, none⟩ ∧ b < w.heap.size ∧ ∀ i, i < xs.length →
    w.cell? ⟨b, off + i * 6, none⟩ = some (.int .i64 (xs.getD i k0).u) ∧ w.cell? ⟨b, off + i * 6 + 1, none⟩ = some (.int .i64 (xs.getD i k0).d) ∧ w.cell? ⟨b, off + i * 6 + 2, none⟩ = some (.int .i64 (xs.getD i k0).au) ∧ w.cell? ⟨b, off + i * 6 + 3, none⟩ = some (.int .i64 (xs.getD i k0).ad) ∧ w.cell? ⟨b, off + i * 6 + 4, none⟩ = some (.int .i64 (xs.getD i k0).h) ∧ w.cell? ⟨b, off + i * 6 + 5, none⟩ = some (.bool (xs.getD i k0).t))
def cutK (x : KidZ) : KidZ := ⟨max (x.u.tmod 17592186044416) 0, min (x.d.tmod 17592186044416) 0, max (x.au.tmod 17592186044416) 0, min (x.ad.tmod 17592186044416) 0, x.h.tmod 17592186044416, x.t⟩
theorem t44 (x : Int) : -17592186044415 ≤ x.tmod 17592186044416 ∧ x.tmod 17592186044416 ≤ 17592186044415 := by
  have h1 := Int.tmod_lt_of_pos x (b := 17592186044416) (by omega)
  have h2 := Int.lt_tmod_of_pos x (b := 17592186044416) (by omega)
  omega
theorem cut_good (x : KidZ) : GoodK (cutK x) := by
  have h1 := t44 x.u; have h2 := t44 x.d; have h3 := t44 x.au; have h4 := t44 x.ad; have h5 := t44 x.h
  unfold GoodK cutK
  dsimp only
  omega
theorem take_cut {xs : List KidZ} {k m : Nat} (h : k < xs.length) (hm : k < m) : ((xs.take m).map cutK).take (k + 1) = ((xs.take m).map cutK).take k ++ [cutK (xs.getD k k0)] := by
  rw [List.take_succ_eq_append_getElem (by simp; omega)]; simp [h]
theorem rkids_row {w : World} {base cap n : Nat} {e : TypeId} {a : Option Addr} {L : List KidZ} (h : w.ownsRow base e 6 (.slice a n cap) n (cellsK L)) (hn : n = L.length) : RKidsIn w a L := kids_row h hn
theorem infoR : (Try.prog.info? 147).map (fun i => (i.zero, i.size, i.bytes)) = some (some (.agg #[.int .i64 0, .int .i64 0, .int .i64 0, .int .i64 0, .int .i64 0, .bool false]), 6, 48) := by kernel_rfl
/-- Two rows of elements of two types lie apart. -/
theorem row_apart {w : World} {base1 base2 s1 s2 n1 n2 : Nat} {e1 e2 : TypeId} {v1 v2 : Value} {xs1 xs2 : List Value} (h1 : w.ownsRow base1 e1 s1 v1 n1 xs1) (h2 : w.ownsRow base2 e2 s2 v2 n2 xs2) (hne : e1 ≠ e2) : v1.ownBlock = none ∨ v1.ownBlock ≠ v2.ownBlock := by
  rcases h1.2 with ⟨rfl, _⟩ | ⟨g1, c1, q1, rfl, _, hh1, _⟩
  · exact .inl rfl
  · rcases h2.2 with ⟨rfl, _⟩ | ⟨g2, c2, q2, rfl, _, hh2, _⟩
    · exact .inr (by simp [Value.ownBlock])
    · refine .inr fun h => ?_
      simp [Value.ownBlock] at h
      subst h
      rw [hh1] at hh2
      cases hh2
      exact hne rfl
set_option maxRecDepth 100000 in
set_option maxHeartbeats 4000000 in
theorem kids_any (a : Option Addr) (cap : Nat) (xs : List KidZ) (w : World) (hx : LKidsIn w a xs) :
    Calls Try.prog 22 #[.slice a xs.length cap] w fun e w' => ∃ al ca bl cb, e = .returned (.tuple #[.slice al ((xs.take 20).map cutK).length ca, .slice bl ((xs.take 20).map cutK).length cb]) ∧ ((xs.take 20).map cutK).length ≤ ca ∧ w'.ownsRow w.heap.size 66 6 (.slice al ((xs.take 20).map cutK).length ca) ((xs.take 20).map cutK).length (cellsK ((xs.take 20).map cutK)) ∧ w'.ownsRow w.heap.size 147 6 (.slice bl ((xs.take 20).map cutK).length cb) ((xs.take 20).map cutK).length (cellsK ((xs.take 20).map cutK)) ∧ Below w.heap.size w w' := by
  obtain ⟨i0, hi, hz0, hz1, hz2⟩ := info_parts infoK
  obtain ⟨i1, hj, hy0, hy1, hy2⟩ := info_parts infoR
  obtain ⟨hx1, hx3⟩ := hx
  have HX3 := Lib.hid hx3; clear hx3
  have htk := fun k (h : k < xs.length) (hm : k < 20) => take_cut (xs := xs) h hm
  have hkl : ((xs.take 20).map cutK).length = min 20 xs.length := by simp
  generalize (xs.take 20).map cutK = ks at *
  generalize hlen : xs.length = n at *
  have HTK := Lib.hid htk; have HKL := Lib.hid hkl; have HN := Lib.hid hlen
  clear htk hkl hlen
  go_enter Try.func22, Try.ntmps22
  go_wp2_with fail
  go_loopw [4, 5, 6] (fun av bv iv wr => ∃ (k : Nat) (al : Option Addr) (ca : Nat) (bl : Option Addr) (cb : Nat), k ≤ n ∧ k ≤ 20 ∧ k ≤ ca ∧ av = .slice al k ca ∧ bv = .slice bl k cb ∧ iv = .int .i64 (k : Int) ∧ Below w.heap.size w wr ∧
    wr.ownsRow w.heap.size 66 6 (.slice al k ca) k (cellsK (ks.take k)) ∧ wr.ownsRow w.heap.size 147 6 (.slice bl k cb) k (cellsK (ks.take k))) (fun _ _ i _ => n - (intOf i).toNat)
  case atStart => exact ⟨0, none, 0, none, 0, Nat.zero_le _, by omega, by omega, rfl, rfl, rfl, Below.refl _ _, World.ownsRow_nil _ _ _ _, World.ownsRow_nil _ _ _ _⟩
  case round =>
    obtain ⟨k, al, ca, bl, cb, hkn, hk20, hkc, rfl, rfl, rfl, hbw, hown, hrow⟩ := hrel
    have HOWN := Lib.hid hown; have HBW := Lib.hid hbw; have HROW := Lib.hid hrow
    have hsz := hbw.size
    by_cases c0 : k < n ∧ k < 20
    · obtain ⟨c1, c2⟩ := c0
      obtain ⟨b, off, rfl, hbl, hcs⟩ := HX3.out (by omega)
      obtain ⟨g0, g1, g2, g3, g4, g5⟩ := hcs k c1
      replace g0 := (hbw.cell (p := ⟨b, _, none⟩) hbl).trans g0
      replace g1 := (hbw.cell (p := ⟨b, _, none⟩) hbl).trans g1
      replace g2 := (hbw.cell (p := ⟨b, _, none⟩) hbl).trans g2
      replace g3 := (hbw.cell (p := ⟨b, _, none⟩) hbl).trans g3
      replace g4 := (hbw.cell (p := ⟨b, _, none⟩) hbl).trans g4
      replace g5 := (hbw.cell (p := ⟨b, _, none⟩) hbl).trans g5
      have hbr : b < wr.heap.size := by omega
      have htk := HTK.out k c1 c2
      clear hcs
      generalize xs.getD k k0 = x at *
      obtain ⟨xu, xd, xau, xad, xh, xt⟩ := x
      dsimp only at g0 g1 g2 g3 g4 g5
      have d1 : (k : Int) < n := by omega
      have d2 : (k : Int) < 20 := by omega
      unfold cutK at htk
      dsimp only at htk
      have HTK2 := Lib.hid htk
      clear htk hown hbw hrow HTK
      go_wp2_with (at_builtin; refine wpList_append_own _ rfl _ _ 43 rfl w.heap.size 66 i0 (.agg #[.int .i64 0, .int .i64 0, .int .i64 0, .int .i64 0, .int .i64 0, .bool false]) 6 48 Try.underlying43 hi hz0 hz1 hz2 rfl (by decide) _ _ _ rfl ((HOWN.out.alloc _).alloc _) ⟨wr.heap.size + 1, 0, none⟩ 1 1 [.int .i64 (max (xu.tmod 17592186044416) 0), .int .i64 (min (xd.tmod 17592186044416) 0), .int .i64 (max (xau.tmod 17592186044416) 0), .int .i64 (min (xad.tmod 17592186044416) 0), .int .i64 (xh.tmod 17592186044416), .bool xt] rfl rfl ?p1 ?p2 ?p3 ?p4 ?p5 ?_)
      case p1 => exact news_at (by simp)
      case p2 => exact one_of rfl
      case p3 => unfold maxLen; omega
      case p4 => omega
      case p5 => simp; omega
      intro v' w2 hown' hgrow hnil
      clear hnil
      have X0 := has_grown hgrow (has_alloc (has_new rfl)) (row_ne_new HOWN.out (by omega))
      have hR2 := ((HROW.out.alloc _).alloc _).kept hgrow (row_apart HROW.out HOWN.out (by decide))
      have hB2 : Below w.heap.size w w2 := Below.grown (by have q := HBW.out; (repeat' (first | (with_reducible exact Below.refl _ _) | (with_reducible assumption) | (with_reducible refine below_from_drew ?_) | (with_reducible refine Below.alloc ?_ ?_ _) | (with_reducible refine Below.drew ?_) | (with_reducible refine below_drewN ?_ _) | (with_reducible refine Below.setCell ?_ ?_ _) | (with_reducible refine below_via ?_ (by assumption) ?_) | (with_reducible refine below_ov ?_ ?_ _ _) | go_size))) hgrow (by simp; omega) (fun bb h => by have := row_block HOWN.out bb h; omega)
      have hsz2 := hgrow.size
      simp only [World.size_alloc] at hsz2
      obtain ⟨al', ca', rfl, hcc, _⟩ := row_reads hown'
      have HO2 := Lib.hid hown'; have HB2 := Lib.hid hB2; have HR2 := Lib.hid hR2
      have q0 := X0.cells
      have l0 := X0.lt
      clear hown' X0 hB2 hgrow hR2
      go_wp2_with (at_builtin; refine wpList_append_own _ rfl _ _ 44 rfl w.heap.size 147 i1 (.agg #[.int .i64 0, .int .i64 0, .int .i64 0, .int .i64 0, .int .i64 0, .bool false]) 6 48 Try.underlying44 hj hy0 hy1 hy2 rfl (by decide) _ _ _ rfl (HR2.out.alloc _) ⟨w2.heap.size, 0, none⟩ 1 1 [.int .i64 (max (xu.tmod 17592186044416) 0), .int .i64 (min (xd.tmod 17592186044416) 0), .int .i64 (max (xau.tmod 17592186044416) 0), .int .i64 (min (xad.tmod 17592186044416) 0), .int .i64 (xh.tmod 17592186044416), .bool xt] rfl rfl ?r1 ?r2 ?r3 ?r4 ?r5 ?_)
      case r1 => exact news_at (by simp)
      case r2 => exact one_of rfl
      case r3 => unfold maxLen; omega
      case r4 => omega
      case r5 => simp; omega
      intro v' w3 hown' hgrow hnil
      clear hnil
      have hR3 := (HO2.out.alloc _).kept hgrow (row_apart HO2.out HR2.out (by decide))
      have hB3 : Below w.heap.size w w3 := Below.grown (by have q := HB2.out; (repeat' (first | (with_reducible exact Below.refl _ _) | (with_reducible assumption) | (with_reducible refine below_from_drew ?_) | (with_reducible refine Below.alloc ?_ ?_ _) | (with_reducible refine Below.drew ?_) | (with_reducible refine below_drewN ?_ _) | (with_reducible refine Below.setCell ?_ ?_ _) | (with_reducible refine below_via ?_ (by assumption) ?_) | (with_reducible refine below_ov ?_ ?_ _ _) | go_size))) hgrow (by simp; omega) (fun bb h => by have := row_block HR2.out bb h; omega)
      obtain ⟨bl', cb', rfl, _, _⟩ := row_reads hown'
      have HO3 := Lib.hid hown'; have HB3 := Lib.hid hB3; have HR3 := Lib.hid hR3
      clear hown' hB3 hgrow hR3 q0
      go_wp2_with fail
      go_roundw
      case rel => exact ⟨k + 1, al', ca', bl', cb', by omega, by omega, hcc, rfl, rfl, by go_num, HB3.out, by rw [HTK2.out, cellsK_snoc]; exact HR3.out, by rw [HTK2.out, cellsK_snoc]; exact HO3.out⟩
      case measure => simp [intOf]; omega
    · have hkk : k = ks.length := by rw [HKL.out]; omega
      have htake : ks.take k = ks := List.take_of_length_le (by omega)
      rw [htake] at hown hrow
      have HOW := Lib.hid hown; have HRO := Lib.hid hrow
      have d2 : ((n : Int) ≤ k ∨ ((k : Int) < n ∧ (20 : Int) ≤ k)) := by omega
      clear hown hrow hbw HOWN HROW htake c0
      rcases d2 with d2 | ⟨d2, d3⟩
      all_goals
        go_wp2_with fail
        go_ret2
        refine ⟨al, ca, bl, cb, ?_⟩
        rw [← hkk]
        exact ⟨rfl, hkc, HOW.out, HRO.out, HBW.out⟩
end Go.Proofs.Ytbjmncgfbdkidaa
