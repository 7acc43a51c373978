/- The closure of the law BlockStacks, and fixed.Try over it. -/
import Derived.Test.YtbjmncgfbdkidaaBlockK
import Derived.Test.YtbjmncgfbdkidaaBlockY
namespace Go.Proofs.Ytbjmncgfbdkidaa
open Go.RowKit
set_option linter.unusedSimpArgs false
set_option linter.unusedVariables false
-- below_from_drew
attribute [local go_sem] ov_cell_same ov_cell_other ov_frozen_same ov_frozen_other ov_size ov_setCell_same ov_setCell_other cell_alloc_old frozen_alloc_old setCell_alloc_old old_alloc old_ov old_drew old_drewN old_setCell
attribute [local go_sem ↓] run_max2 run_min2

def zO : OutZ := ⟨[], 0, 0, 0, 0, 0, false⟩
/-- What is answered: the places and 0, or nothing and 2. -/
def Ans (o : Option OutZ) (z : OutZ) (k : Int) : Prop := (o = some z ∧ k = 0) ∨ (o = none ∧ z = zO ∧ k = 2)
theorem Ans.one {o : Option OutZ} {z z' : OutZ} {k k' : Int} (h : Ans o z k) (h' : Ans o z' k') : z = z' ∧ k = k' := by
  rcases h with ⟨h1, rfl⟩ | ⟨h1, rfl, rfl⟩ <;> rcases h' with ⟨h2, rfl⟩ | ⟨h2, rfl, rfl⟩
  · rw [h1] at h2; exact ⟨Option.some.inj h2, rfl⟩
  · rw [h1] at h2; cases h2
  · rw [h1] at h2; cases h2
  · exact ⟨rfl, rfl⟩
set_option maxRecDepth 100000 in
set_option maxHeartbeats 2000000 in
theorem stacks_in (ba bt bb bn : Nat) (al : Option Addr) (cap n : Nat) (ks : List KidZ) (ot ob : Bool) (z : OutZ) (w : World) (hz : stackZ ks ot ob = some z) (hn : ks.length = n) (hm : n ≤ 1000) (hcap : n ≤ cap) (hk : KidsIn w al ks) (h1 : Has w ba #[.slice al n cap] 43) (ht : Has w bt #[.bool ot] 4) (hb : Has w bb #[.bool ob] 4) (h2 : Has w bn #[.slice none 0 0, .int .i64 0, .int .i64 0, .int .i64 0, .int .i64 0, .int .i64 0, .bool false] 51) :
    Calls Try.prog 24 #[.pointer (some ⟨ba, 0, none⟩), .pointer (some ⟨bt, 0, none⟩), .pointer (some ⟨bb, 0, none⟩), .pointer (some ⟨bn, 0, none⟩)] w fun e w' => e = .returned (.tuple #[]) ∧ LeftO w bn z w' := by
  have hs := stack_any al cap ks ot ob w (by omega) (by omega) hk
  rw [hz, hn] at hs
  have HS := Lib.hid hs; have H2 := Lib.hid h2
  have c1 : w.cell? ⟨ba, 0, none⟩ = some (.slice al n cap) := has_cell h1 rfl
  have c2 : w.cell? ⟨bt, 0, none⟩ = some (.bool ot) := has_cell ht rfl
  have c3 : w.cell? ⟨bb, 0, none⟩ = some (.bool ob) := has_cell hb rfl
  clear hs h1 h2 hk hz ht hb
  go_enter Try.func24, Try.ntmps24
  go_wp2_with fail
  refine HS.out.mono ?_
  rintro e w3 ⟨hb3, ⟨z', a, c, hz, rfl, hrow⟩ | ⟨hz, _⟩⟩
  rotate_left
  · cases hz
  obtain rfl := Option.some.inj hz
  have hW := has_below hb3 H2.out
  have hR : LeftO w bn z (ov w3 bn #[.slice a z.ys.length c, .int .i64 z.h, .int .i64 z.bu, .int .i64 z.bd, .int .i64 z.au, .int .i64 z.ad, .bool z.t] 51) := ⟨w3, a, c, rfl, hb3, hrow⟩
  have HRR := Lib.hid hR
  have hlw := hW.lt
  rw [← ov_self hW]
  clear hz hrow hR hW hb3
  go_wp2_with fail
  go_end0
  exact ⟨rfl, HRR.out⟩
set_option maxRecDepth 100000 in
set_option maxHeartbeats 2000000 in
theorem stacks_no (ba bt bb bn : Nat) (al : Option Addr) (cap n : Nat) (ks : List KidZ) (ot ob : Bool) (w : World) (hz : stackZ ks ot ob = none) (hn : ks.length = n) (hm : n ≤ 1000) (hcap : n ≤ cap) (hk : KidsIn w al ks) (h1 : Has w ba #[.slice al n cap] 43) (ht : Has w bt #[.bool ot] 4) (hb : Has w bb #[.bool ob] 4) :
    Calls Try.prog 24 #[.pointer (some ⟨ba, 0, none⟩), .pointer (some ⟨bt, 0, none⟩), .pointer (some ⟨bb, 0, none⟩), .pointer (some ⟨bn, 0, none⟩)] w fun e w' => e = .panicked (gave 2) ∧ Below w.heap.size w w' := by
  have hs := stack_any al cap ks ot ob w (by omega) (by omega) hk
  rw [hz, hn] at hs
  have HS := Lib.hid hs
  have c1 : w.cell? ⟨ba, 0, none⟩ = some (.slice al n cap) := has_cell h1 rfl
  have c2 : w.cell? ⟨bt, 0, none⟩ = some (.bool ot) := has_cell ht rfl
  have c3 : w.cell? ⟨bb, 0, none⟩ = some (.bool ob) := has_cell hb rfl
  clear hs h1 hk hz ht hb
  go_enter Try.func24, Try.ntmps24
  go_wp2_with fail
  refine HS.out.mono ?_
  rintro e w3 ⟨hb3, ⟨z', a, c, hz, rfl, hrow⟩ | ⟨hz, rfl⟩⟩
  · cases hz
  · exact ⟨rfl, rfl, hb3⟩
theorem stacks_try (ba bt bb bn : Nat) (al : Option Addr) (cap n : Nat) (ks : List KidZ) (ot ob : Bool) (w : World) (hn : ks.length = n) (hm : n ≤ 1000) (hcap : n ≤ cap) (hk : KidsIn (w.alloc (.cells #[.int .i64 0] 52)) al ks) (h1 : Has w ba #[.slice al n cap] 43) (ht : Has w bt #[.bool ot] 4) (hb : Has w bb #[.bool ob] 4) (h2 : Has w bn #[.slice none 0 0, .int .i64 0, .int .i64 0, .int .i64 0, .int .i64 0, .int .i64 0, .bool false] 51) :
    Calls Try.prog 23 #[.func (Fn.func 24) #[] #[.pointer (some ⟨ba, 0, none⟩), .pointer (some ⟨bt, 0, none⟩), .pointer (some ⟨bb, 0, none⟩), .pointer (some ⟨bn, 0, none⟩)]] w fun e w' => ∃ z k a c u, Ans (stackZ ks ot ob) z k ∧ e = .returned (.int .i64 k) ∧ w' = ov u bn #[.slice a z.ys.length c, .int .i64 z.h, .int .i64 z.bu, .int .i64 z.bd, .int .i64 z.au, .int .i64 z.ad, .bool z.t] 51 ∧ Below w.heap.size w u ∧ YsIn w' a z.ys ∧ z.ys.length ≤ 9223372036854775807 := by
  have hlt := h2.lt
  have hal : Below w.heap.size w (w.alloc (.cells #[.int .i64 0] 52)) := (Below.refl _ _).alloc (Nat.le_refl _) _
  cases hz : stackZ ks ot ob with
  | some z =>
    refine (try_ok2 24 _ _ _ (fun W => by kernel_rfl) (stacks_in ba bt bb bn al cap n ks ot ob z _ hz hn hm hcap hk (has_alloc h1) (has_alloc ht) (has_alloc hb) (has_alloc h2)) ?_).mono ?_
    · rintro w' ⟨u, a, c, rfl, hb, hown⟩
      exact has_ov_other (by omega) (has_below hb (has_new rfl))
    rintro e w' ⟨rfl, u, a, c, rfl, hb, hown⟩
    exact ⟨z, 0, a, c, u, .inl ⟨rfl, rfl⟩, rfl, rfl, below_via hal hb (by simp), ys_row (row_in hown (by simp; omega)), by obtain ⟨_, _, hv, h1, h2, _⟩ := row_reads hown; exact Nat.le_trans h1 h2⟩
  | none =>
    refine (try_no 24 _ _ _ _ (fun W => by kernel_rfl) (stacks_no ba bt bb bn al cap n ks ot ob _ hz hn hm hcap hk (has_alloc h1) (has_alloc ht) (has_alloc hb)) ?_).mono ?_
    · rintro w' hb
      exact has_below hb (has_new rfl)
    rintro e w' ⟨rfl, u, hb, rfl⟩
    have hbb : Below w.heap.size w (u.setCell ⟨w.heap.size, 0, none⟩ (.int .i64 2)) := (below_via hal hb (by simp)).setCell (Nat.le_refl _) _
    have hh := has_below hbb h2
    exact ⟨zO, 2, none, 0, _, .inr ⟨rfl, rfl, rfl⟩, rfl, (by simp only [zO, List.length_nil]; exact (ov_self hh).symm), hbb, fun h => by simp [zO] at h, by simp [zO]⟩
end Go.Proofs.Ytbjmncgfbdkidaa
