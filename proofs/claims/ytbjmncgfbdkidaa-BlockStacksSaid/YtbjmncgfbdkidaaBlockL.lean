/- clapboardlaw17.speaks; the closures. -/
import Derived.Test.YtbjmncgfbdkidaaBlockS
namespace Go.Proofs.Ytbjmncgfbdkidaa
open Go.RowKit
set_option linter.unusedSimpArgs false
set_option linter.unusedVariables false
-- below_from_drew
attribute [local go_sem] ov_cell_same ov_cell_other ov_frozen_same ov_frozen_other ov_size ov_setCell_same ov_setCell_other cell_alloc_old frozen_alloc_old setCell_alloc_old old_alloc old_ov old_drew old_drewN old_setCell
attribute [local go_sem ↓] run_max2 run_min2

/-- fixed.Try, where the closure returns. -/
theorem try_ok2 (F : FuncId) (cap : Array Value) (w : World) (R : World → Prop) (hF : ∀ W, (callFunc F cap).run Try.prog W = .ok (.enter F cap) W) (h : Calls Try.prog F cap (w.alloc (.cells #[.int .i64 0] 52)) fun e w' => e = .returned (.tuple #[]) ∧ R w') (hR : ∀ w', R w' → Has w' w.heap.size #[.int .i64 0] 52) :
    Calls Try.prog 23 #[.func (Fn.func F) #[] cap] w fun e w' => e = .returned (.int .i64 0) ∧ R w' := by
  refine (try_ok F cap w R hF h hR).mono ?_
  rintro e w' ⟨rfl, w1, hr, rfl⟩
  have := ov_self (hR _ hr)
  refine ⟨rfl, ?_⟩
  rw [← this, ov_setCell_same]
  simpa [this] using hr
/-- What a closure leaves that has stacked kids into its own variable. -/
def LeftO (w : World) (bn : Nat) (z : OutZ) (w' : World) : Prop :=
  ∃ u a c, w' = ov u bn #[.slice a z.ys.length c, .int .i64 z.h, .int .i64 z.bu, .int .i64 z.bd, .int .i64 z.au, .int .i64 z.ad, .bool z.t] 51 ∧ Below w.heap.size w u ∧ u.ownsRow w.heap.size 2 1 (.slice a z.ys.length c) z.ys.length (ints z.ys)
theorem speaksZ : stackZ [⟨0, 0, 5, 0, 10, false⟩, ⟨8, 0, 0, 0, 20, false⟩] false false = some ⟨[0, 18], 38, 0, 0, 0, 0, false⟩ := by kernel_rfl
set_option maxRecDepth 100000 in
set_option maxHeartbeats 2000000 in
theorem speaks17_in (bn : Nat) (w : World) (h : Has w bn #[.slice none 0 0, .int .i64 0, .int .i64 0, .int .i64 0, .int .i64 0, .int .i64 0, .bool false] 51) :
    Calls Try.prog 68 #[.pointer (some ⟨bn, 0, none⟩)] w fun e w' => e = .returned (.tuple #[]) ∧ LeftO w bn ⟨[0, 18], 38, 0, 0, 0, 0, false⟩ w' := by
  have H := Lib.hid h; have hl := h.lt; clear h
  go_enter Try.func68, Try.ntmps68
  go_wp2_with fail
  refine (mof_any 5 _).mono ?_
  rintro e w1 ⟨rfl, hb1⟩
  go_wp2_with fail
  refine (mof_any 8 _).mono ?_
  rintro e w2 ⟨rfl, hb2⟩
  go_wp2_with fail
  have hn := has_new (w := w2) (b := w2.heap.size) (cs := #[.int .i64 0, .int .i64 0, .int .i64 (max 5 0), .int .i64 (min 5 0), .int .i64 10, .bool false, .int .i64 (max 8 0), .int .i64 (min 8 0), .int .i64 0, .int .i64 0, .int .i64 20, .bool false]) (T := 66) rfl
  have hs := stack_any (some ⟨w2.heap.size, 0, none⟩) 2 [⟨0, 0, max 5 0, min 5 0, 10, false⟩, ⟨max 8 0, min 8 0, 0, 0, 20, false⟩] false false _ (by simp) (by simp) (fun _ => ⟨_, rfl, hn.lt, fun i hi => by
    rcases i with _ | _ | i
    · exact ⟨has_cell hn rfl, has_cell hn rfl, has_cell hn rfl, has_cell hn rfl, has_cell hn rfl, has_cell hn rfl⟩
    · exact ⟨has_cell hn rfl, has_cell hn rfl, has_cell hn rfl, has_cell hn rfl, has_cell hn rfl, has_cell hn rfl⟩
    · simp at hi; omega⟩)
  refine hs.mono ?_
  have hz0 : stackZ [⟨0, 0, max 5 0, min 5 0, 10, false⟩, ⟨max 8 0, min 8 0, 0, 0, 20, false⟩] false false = some ⟨[0, 18], 38, 0, 0, 0, 0, false⟩ := speaksZ
  rw [hz0]
  rintro e w3 ⟨hb3, ⟨z, a, c, hz, rfl, hrow⟩ | ⟨hz, _⟩⟩
  rotate_left
  · cases hz
  obtain rfl := Option.some.inj hz
  have hb : Below w.heap.size w w3 := below_via (hb1.trans (hb2.mono hb1.size)) (below_via (Below.alloc (Below.refl _ _) (Nat.le_refl _) _) hb3 (by simp)) (Nat.le_trans hb1.size hb2.size)
  have hW := has_below hb H.out
  have hR : LeftO w bn ⟨[0, 18], 38, 0, 0, 0, 0, false⟩ (ov w3 bn #[.slice a 2 c, .int .i64 38, .int .i64 0, .int .i64 0, .int .i64 0, .int .i64 0, .bool false] 51) := ⟨w3, a, c, rfl, hb, row_mono hrow (by have := hb1.size; have := hb2.size; simp; omega)⟩
  have HRR := Lib.hid hR
  have hlw := hW.lt
  rw [← ov_self hW]
  clear hz hz0 hrow hR hb3 hs hn hW hb hb1 hb2
  go_wp2_with fail
  go_end0
  exact ⟨rfl, HRR.out⟩
set_option maxRecDepth 100000 in
set_option maxHeartbeats 2000000 in
theorem speaks17_any (w : World) : Calls Try.prog 21 #[] w fun e w' => e = .returned (.bool true) ∧ Below w.heap.size w w' := by
  go_enter Try.func21, Try.ntmps21
  go_wp2_with fail
  refine (try_ok2 68 _ _ _ (fun W => by kernel_rfl) (speaks17_in w.heap.size _ (by (repeat' (first | (with_reducible refine has_drew ?_) | (with_reducible refine has_drewN ?_) | (with_reducible refine has_new ?_; (first | (with_reducible rfl) | omega | (simp; done) | (simp; omega))) | (with_reducible refine has_ov_same ?_; (first | (with_reducible rfl) | omega | (simp; done) | (simp; omega))) | (with_reducible refine has_alloc ?_) | (with_reducible refine has_ov_other ?_ ?_; (focus (first | (with_reducible rfl) | omega | (simp; done) | (simp; omega)))) | (with_reducible assumption))))) ?_).mono ?_
  · rintro w' ⟨u1, a, c, rfl, hb, hown⟩
    exact has_ov_other (by simp) (has_below hb (has_new rfl))
  rintro e w1 ⟨rfl, u1, a, c, rfl, hb, hown⟩
  dsimp only [List.length_cons, List.length_nil] at hb hown ⊢
  obtain ⟨a', c', hv, _, _, hr⟩ := row_reads hown
  cases hv
  obtain ⟨g, rfl, hg1, hg2, hcs⟩ := hr (by omega)
  have e1 : u1.cell? ⟨g, 1, none⟩ = some (.int .i64 18) := hcs 1 _ rfl
  have hsz := hb.size
  have hB : Below w.heap.size w u1 := below_via (by (repeat' (first | (with_reducible exact Below.refl _ _) | (with_reducible assumption) | (with_reducible refine below_from_drew ?_) | (with_reducible refine Below.alloc ?_ ?_ _) | (with_reducible refine Below.drew ?_) | (with_reducible refine below_drewN ?_ _) | (with_reducible refine Below.setCell ?_ ?_ _) | (with_reducible refine below_via ?_ (by assumption) ?_) | (with_reducible refine below_ov ?_ ?_ _ _) | go_size))) hb (by go_size)
  have HB := Lib.hid hB
  simp only [World.size_alloc] at hg1 hsz
  have l0 : w.heap.size < u1.heap.size := by omega
  have n1 : g ≠ w.heap.size := by omega
  have n2 : w.heap.size ≠ g := by omega
  clear hb hown hr hcs hB
  go_wp2_with fail
  go_ret
  exact ⟨rfl, by have q := HB.out; (repeat' (first | (with_reducible exact Below.refl _ _) | (with_reducible assumption) | (with_reducible refine below_from_drew ?_) | (with_reducible refine Below.alloc ?_ ?_ _) | (with_reducible refine Below.drew ?_) | (with_reducible refine below_drewN ?_ _) | (with_reducible refine Below.setCell ?_ ?_ _) | (with_reducible refine below_via ?_ (by assumption) ?_) | (with_reducible refine below_ov ?_ ?_ _ _) | go_size))⟩
end Go.Proofs.Ytbjmncgfbdkidaa
