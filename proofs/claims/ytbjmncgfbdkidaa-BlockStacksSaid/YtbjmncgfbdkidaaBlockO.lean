/- The kids that the laws of layer 17 make of small numbers. -/
import Derived.Test.YtbjmncgfbdkidaaBlockL
import Derived.Test.YtbjmncgfbdkidaaNoise
namespace Go.Proofs.Ytbjmncgfbdkidaa
open Go.RowKit
set_option linter.unusedSimpArgs false
set_option linter.unusedVariables false
-- below_from_drew
attribute [local go_sem] ov_cell_same ov_cell_other ov_frozen_same ov_frozen_other ov_size ov_setCell_same ov_setCell_other cell_alloc_old frozen_alloc_old setCell_alloc_old old_alloc old_ov old_drew old_drewN old_setCell
attribute [local go_sem ↓] run_max2 run_min2

/-- Small numbers that came in. -/
structure SmallZ where
  b : Int
  a : Int
  h : Int
  t : Bool
def s0 : SmallZ := ⟨0, 0, 0, true⟩
def SmallIn (w : World) (a : Option Addr) (xs : List SmallZ) : Prop :=
  xs.length ≤ 9223372036854775807 ∧ (∀ x ∈ xs, (0 ≤ x.b ∧ x.b ≤ 65535) ∧ (0 ≤ x.a ∧ x.a ≤ 65535) ∧ (0 ≤ x.h ∧ x.h ≤ 65535)) ∧ (0 < xs.length → ∃ b off, a = some ⟨b, off, none⟩ ∧ b < w.heap.size ∧ ∀ i, i < xs.length →
    w.cell? ⟨b, off + i * 4, none⟩ = some (.int .u16 (xs.getD i s0).b) ∧ w.cell? ⟨b, off + i * 4 + 1, none⟩ = some (.int .u16 (xs.getD i s0).a) ∧ w.cell? ⟨b, off + i * 4 + 2, none⟩ = some (.int .u16 (xs.getD i s0).h) ∧ w.cell? ⟨b, off + i * 4 + 3, none⟩ = some (.bool (xs.getD i s0).t))
def kidOf (x : SmallZ) : KidZ := ⟨max x.b 0, min x.b 0, max x.a 0, min x.a 0, if x.t then 0 else x.h, x.t⟩
def cellsK (L : List KidZ) : List Value := L.flatMap fun k => [.int .i64 k.u, .int .i64 k.d, .int .i64 k.au, .int .i64 k.ad, .int .i64 k.h, .bool k.t]
theorem cellsK_snoc (L : List KidZ) (k : KidZ) : cellsK (L ++ [k]) = cellsK L ++ [.int .i64 k.u, .int .i64 k.d, .int .i64 k.au, .int .i64 k.ad, .int .i64 k.h, .bool k.t] := by simp [cellsK]
theorem infoK : (Try.prog.info? 66).map (fun i => (i.zero, i.size, i.bytes)) = some (some (.agg #[.int .i64 0, .int .i64 0, .int .i64 0, .int .i64 0, .int .i64 0, .bool false]), 6, 48) := by kernel_rfl
theorem cellsK_get : ∀ (L : List KidZ) (i : Nat), i < L.length → (cellsK L)[i * 6]? = some (.int .i64 (L.getD i k0).u) ∧ (cellsK L)[i * 6 + 1]? = some (.int .i64 (L.getD i k0).d) ∧ (cellsK L)[i * 6 + 2]? = some (.int .i64 (L.getD i k0).au) ∧ (cellsK L)[i * 6 + 3]? = some (.int .i64 (L.getD i k0).ad) ∧ (cellsK L)[i * 6 + 4]? = some (.int .i64 (L.getD i k0).h) ∧ (cellsK L)[i * 6 + 5]? = some (.bool (L.getD i k0).t)
  | [], i, h => by simp at h
  | p :: r, 0, _ => ⟨rfl, rfl, rfl, rfl, rfl, rfl⟩
  | p :: r, i + 1, h => by
    have ih := cellsK_get r i (by simpa using h)
    have key : ∀ x, (cellsK (p :: r))[x + 6]? = (cellsK r)[x]? := fun x => rfl
    have g : (p :: r).getD (i + 1) k0 = r.getD i k0 := rfl
    rw [g, show (i + 1) * 6 = i * 6 + 6 by omega, show i * 6 + 6 + 1 = i * 6 + 1 + 6 by omega, show i * 6 + 6 + 2 = i * 6 + 2 + 6 by omega, show i * 6 + 6 + 3 = i * 6 + 3 + 6 by omega, show i * 6 + 6 + 4 = i * 6 + 4 + 6 by omega, show i * 6 + 6 + 5 = i * 6 + 5 + 6 by omega, key, key, key, key, key, key]
    exact ih
theorem kids_row {w : World} {base cap n : Nat} {e : TypeId} {a : Option Addr} {L : List KidZ} (h : w.ownsRow base e 6 (.slice a n cap) n (cellsK L)) (hn : n = L.length) : KidsIn w a L := by
  intro h0
  obtain ⟨a', c', hv, _, _, hr⟩ := row_reads h
  cases hv
  obtain ⟨g, ha, _, hg, hcs⟩ := hr (by omega)
  refine ⟨g, ha, hg, fun i hi => ?_⟩
  obtain ⟨h0, h1, h2, h3, h4, h5⟩ := cellsK_get L i hi
  exact ⟨hcs _ _ h0, hcs _ _ h1, hcs _ _ h2, hcs _ _ h3, hcs _ _ h4, hcs _ _ h5⟩
theorem small_kid {x : SmallZ} (h : (0 ≤ x.b ∧ x.b ≤ 65535) ∧ (0 ≤ x.a ∧ x.a ≤ 65535) ∧ (0 ≤ x.h ∧ x.h ≤ 65535)) : SmallK (kidOf x) := by
  unfold SmallK kidOf
  cases ht : x.t <;> simp <;> omega
theorem take_kid {xs : List SmallZ} {k m : Nat} (h : k < xs.length) (hm : k < m) : ((xs.take m).map kidOf).take (k + 1) = ((xs.take m).map kidOf).take k ++ [kidOf (xs.getD k s0)] := by
  rw [List.take_succ_eq_append_getElem (by simp; omega)]; simp [h]
end Go.Proofs.Ytbjmncgfbdkidaa
