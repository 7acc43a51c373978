/- fixed.Try by contract, whatever closure it is handed; fixed.Fail, fixed.Of, fixed.clipped, fixed.Add, fixed.Sub. -/
import Derived.Test.YtjcbphhemmdnjaaRows
import Derived.Test.YtjcbphhemmdnjaaBase
-- SOFT
namespace Go.Proofs.Ytjcbphhemmdnjaa
open Go.RowKit
set_option linter.unusedSimpArgs false
set_option linter.unusedVariables false
attribute [local go_sem] ov_cell_same ov_cell_other ov_frozen_same ov_frozen_other ov_size ov_setCell_same ov_setCell_other cell_alloc_old frozen_alloc_old setCell_alloc_old old_alloc old_ov old_drew old_drewN old_setCell
attribute [local go_sem ↓] run_max2 run_min2

/-- What a giving up panics with. -/
def gave (k : Int) : List PanicEntry := [{ v := .iface 147 (.int .i64 k), recovered := false }]

theorem assert_gave (v : Value) (w : World) : (Instr.typeAssert (.iface 147 v) 20 147 true).run Try.prog w = .ok (.tuple #[v, .bool true]) w := by kernel_rfl
attribute [local go_sem] assert_gave

set_option maxRecDepth 100000 in
theorem catch_gave (p : Addr) (x k : Int) (w : World) (hc : w.cell? p = some (.int .i64 x)) (hz : w.frozen? p = false) :
    CallsD Try.prog 53 #[.pointer (some p)] (.panicking [{ v := .iface 147 (.int .i64 k), recovered := false }]) w fun e u' w' =>
      e = .returned (.tuple #[]) ∧ u' = .panicking [{ v := .iface 147 (.int .i64 k), recovered := true }] ∧ w' = w.setCell p (.int .i64 k) := by
  refine callsD_of_wpS Try.func53 rfl fun c₀ cs hu => ?_
  apply wpS_seq
  apply wpS_region
  simp [wpOpsS, go_sem, recoverD, hu, Try.ntmps53, Exit.thenS]
  simp only [List.size_toArray, List.length_cons, List.length_nil, Nat.reduceAdd, Nat.reduceSub, Array.replicate_succ, Array.replicate_zero, List.push_toArray, List.append_toArray, List.nil_append, List.cons_append, List.setIfInBounds_toArray, List.set_cons_zero, List.set_cons_succ]
  refine wpS_of_wp ?_
  go_wp2
  cases c₀
  simp_all [bodyPostS, results, Try.results53]

set_option maxRecDepth 100000 in
theorem catch_idle (p : Addr) (w : World) :
    CallsD Try.prog 53 #[.pointer (some p)] .returning w fun e u' w' => e = .returned (.tuple #[]) ∧ u' = .returning ∧ w' = w := by
  refine callsD_of_wpS Try.func53 rfl fun c₀ cs hu => ?_
  apply wpS_seq
  apply wpS_region
  simp [wpOpsS, go_sem, recoverD, hu, Try.ntmps53, Exit.thenS]
  simp only [List.size_toArray, List.length_cons, List.length_nil, Nat.reduceAdd, Nat.reduceSub, Array.replicate_succ, Array.replicate_zero, List.push_toArray, List.append_toArray, List.nil_append, List.cons_append, List.setIfInBounds_toArray, List.set_cons_zero, List.set_cons_succ]
  refine wpS_of_wp ?_
  go_wp2
  cases c₀
  simp_all [bodyPostS, results, Try.results53]

theorem eql_func_nil (F : FuncId) (cap : Array Value) (w : World) : (binOp .eql 1 (.func (Fn.func F) #[] cap) .nilFunc).run Try.prog w = .ok (.bool false) w := by kernel_rfl
attribute [local go_sem] eql_func_nil

set_option maxRecDepth 100000 in
theorem try_ok (F : FuncId) (cap : Array Value) (w : World) (R : World → Prop) (hF : ∀ W, (callFunc F cap).run Try.prog W = .ok (.enter F cap) W) (h : Calls Try.prog F cap (w.alloc (.cells #[.int .i64 0] 36)) fun e w' => e = .returned (.tuple #[]) ∧ R w') (hR : ∀ w', R w' → Has w' w.heap.size #[.int .i64 0] 36) :
    Calls Try.prog 34 #[.func (Fn.func F) #[] cap] w fun e w' => e = .returned (.int .i64 0) ∧ ∃ w1, R w1 ∧ w' = w1.setCell ⟨w.heap.size, 0, none⟩ (.int .i64 0) := by
  have hmf : ∀ (fn : Fn) (first cap : Array Value) (w : World), (Instr.makeFunc fn first cap).run Try.prog w = .ok (.func fn first cap) w := fun _ _ _ _ => rfl
  have H := Lib.hid h; clear h
  have HR := Lib.hid hR; clear hR
  go_enter_defers Try.func34, Try.ntmps34
  go_wp2_with fail
  refine H.out.mono ?_
  rintro e w1 ⟨rfl, hr⟩
  have hH := HR.out _ hr
  have hc : w1.cell? ⟨w.heap.size, 0, none⟩ = some (.int .i64 0) := by simp [World.cell?, show w1.heap[w.heap.size]? = some _ from hH]
  have hf : w1.frozen? ⟨w.heap.size, 0, none⟩ = false := by simp [World.frozen?, show w1.heap[w.heap.size]? = some _ from hH]
  go_wp2
  refine leaves_cons (f := 53) (args := #[.pointer (some ⟨w.heap.size, 0, none⟩)]) (by simp) (by simp [go_sem]) ?_
  refine (catch_idle ⟨w.heap.size, 0, none⟩ _).mono ?_
  rintro e u' w'' ⟨rfl, rfl, rfl⟩
  exact ⟨.int .i64 0, by simp [results, Try.results34, go_sem, hc], rfl, w1, hr, rfl⟩
set_option maxRecDepth 100000 in
theorem try_no (F : FuncId) (cap : Array Value) (k : Int) (w : World) (R : World → Prop) (hF : ∀ W, (callFunc F cap).run Try.prog W = .ok (.enter F cap) W) (h : Calls Try.prog F cap (w.alloc (.cells #[.int .i64 0] 36)) fun e w' => e = .panicked (gave k) ∧ R w') (hR : ∀ w', R w' → Has w' w.heap.size #[.int .i64 0] 36) :
    Calls Try.prog 34 #[.func (Fn.func F) #[] cap] w fun e w' => e = .returned (.int .i64 k) ∧ ∃ w1, R w1 ∧ w' = w1.setCell ⟨w.heap.size, 0, none⟩ (.int .i64 k) := by
  have hmf : ∀ (fn : Fn) (first cap : Array Value) (w : World), (Instr.makeFunc fn first cap).run Try.prog w = .ok (.func fn first cap) w := fun _ _ _ _ => rfl
  have H := Lib.hid h; clear h
  have HR := Lib.hid hR; clear hR
  go_enter_defers Try.func34, Try.ntmps34
  go_wp2_with fail
  refine H.out.mono ?_
  rintro e w1 ⟨rfl, hr⟩
  have hH := HR.out _ hr
  have hc : w1.cell? ⟨w.heap.size, 0, none⟩ = some (.int .i64 0) := by simp [World.cell?, show w1.heap[w.heap.size]? = some _ from hH]
  have hf : w1.frozen? ⟨w.heap.size, 0, none⟩ = false := by simp [World.frozen?, show w1.heap[w.heap.size]? = some _ from hH]
  refine leaves_cons (f := 53) (args := #[.pointer (some ⟨w.heap.size, 0, none⟩)]) (by simp) (by simp [go_sem]) ?_
  refine (catch_gave ⟨w.heap.size, 0, none⟩ 0 k _ hc hf).mono ?_
  rintro e u' w'' ⟨rfl, rfl, rfl⟩
  exact ⟨.int .i64 k, by simp [results, Try.results34, go_sem, hc], rfl, w1, hr, rfl⟩
set_option maxRecDepth 100000 in
theorem fail_ok (w : World) : Calls Try.prog 91 #[.int .i64 0] w fun e w' => e = .returned (.tuple #[]) ∧ w = w' := by
  go_enter Try.func91, Try.ntmps91
  go_wp2
  go_end0
  exact ⟨rfl, rfl⟩
set_option maxRecDepth 100000 in
theorem fail_no (k : Int) (hk : k ≠ 0) (w : World) : Calls Try.prog 91 #[.int .i64 k] w fun e w' => e = .panicked (gave k) ∧ w = w' := by
  have h : (k != 0) = true := by simp [hk]
  clear hk
  go_enter Try.func91, Try.ntmps91
  go_wp2
  exact ⟨rfl, rfl, rfl⟩
theorem of_ok (n : Int) (h1 : -17592186044416 ≤ n) (h2 : n ≤ 17592186044416) (w : World) : Calls Try.prog 76 #[.int .i64 n] w fun e w' => e = .returned (.int .i64 n) ∧ w = w' := by
  go_enter Try.func76, Try.ntmps76
  go_wp2
  go_ret
  exact ⟨rfl, rfl⟩
theorem of_no (n : Int) (h : n < -17592186044416 ∨ 17592186044416 < n) (w : World) : Calls Try.prog 76 #[.int .i64 n] w fun e w' => e = .panicked (gave 2) ∧ w = w' := by
  have f2 := fail_no 2 (by omega)
  rcases h with h | h
  · go_enter Try.func76, Try.ntmps76
    go_wp2_with (go_at_call 91; (with_reducible refine (f2 _).mono ?_); rintro e w1 ⟨rfl, rfl⟩)
    exact ⟨rfl, rfl, rfl⟩
  · have h' : ¬ n < -17592186044416 := by omega
    go_enter Try.func76, Try.ntmps76
    go_wp2_with (go_at_call 91; (with_reducible refine (f2 _).mono ?_); rintro e w1 ⟨rfl, rfl⟩)
    exact ⟨rfl, rfl, rfl⟩
def clip (n : Int) : Int := min (max n (-52776558133248)) 52776558133248
theorem clip_le (n : Int) : -52776558133248 ≤ clip n ∧ clip n ≤ 52776558133248 := by unfold clip; omega
theorem clipped_any (n : Int) (w : World) : Calls Try.prog 77 #[.int .i64 n] w fun e w' => e = .returned (.int .i64 (clip n)) ∧ w = w' := by
  go_enter Try.func77, Try.ntmps77
  go_wp2
  go_ret
  exact ⟨rfl, rfl⟩
theorem sub_ok (a b : Int) (h1 : -17592186044416 ≤ a - b) (h2 : a - b ≤ 17592186044416) (h3 : -17592186044416 ≤ clip a - clip b) (h4 : clip a - clip b ≤ 17592186044416) (w : World) : Calls Try.prog 54 #[.int .i64 a, .int .i64 b] w fun e w' => e = .returned (.int .i64 (a - b)) ∧ w = w' := by
  have b1 := clip_le a
  have b2 := clip_le b
  go_enter Try.func54, Try.ntmps54
  go_wp2_with (first | (go_at_call 77; (with_reducible refine (clipped_any _ _).mono ?_); rintro e w1 ⟨rfl, rfl⟩) | (go_at_call 76; (with_reducible refine (of_ok _ (by omega) (by omega) _).mono ?_); rintro e w1 ⟨rfl, rfl⟩))
  go_ret
  exact ⟨rfl, rfl⟩
theorem sub_no (a b : Int) (ha : -9223372036854775808 ≤ a ∧ a ≤ 9223372036854775807) (hb : -9223372036854775808 ≤ b ∧ b ≤ 9223372036854775807) (h : a - b < -17592186044416 ∨ 17592186044416 < a - b ∨ clip a - clip b < -17592186044416 ∨ 17592186044416 < clip a - clip b) (w : World) : Calls Try.prog 54 #[.int .i64 a, .int .i64 b] w fun e w' => e = .panicked (gave 2) ∧ w = w' := by
  have b1 := clip_le a
  have b2 := clip_le b
  by_cases hc : clip a - clip b < -17592186044416 ∨ 17592186044416 < clip a - clip b
  · clear h
    have H := Lib.hid hc; clear hc
    go_enter Try.func54, Try.ntmps54
    go_wp2_with (first | (go_at_call 77; (with_reducible refine (clipped_any _ _).mono ?_); rintro e w1 ⟨rfl, rfl⟩) | (go_at_call 76; (with_reducible refine (of_no _ H.out _).mono ?_); rintro e w1 ⟨rfl, rfl⟩))
    exact ⟨rfl, rfl, rfl⟩
  · have h1 : -17592186044416 ≤ clip a - clip b := by omega
    have h2 : clip a - clip b ≤ 17592186044416 := by omega
    have h3 : a - b < -17592186044416 ∨ 17592186044416 < a - b := by omega
    have h4 : -9223372036854775808 ≤ a - b ∧ a - b ≤ 9223372036854775807 := by unfold clip at h1 h2; omega
    obtain ⟨h5, h6⟩ := h4
    clear hc h
    have H := Lib.hid h3; clear h3
    go_enter Try.func54, Try.ntmps54
    go_wp2_with fail
    go_wp2_with (go_at_call 77; (with_reducible refine (clipped_any _ _).mono ?_); rintro e w1 ⟨rfl, rfl⟩)
    (go_at_call 76; (with_reducible refine (of_ok _ h1 h2 _).mono ?_); rintro e w1 ⟨rfl, rfl⟩)
    go_wp2_with fail
    (go_at_call 76; (with_reducible refine (of_no _ H.out _).mono ?_); rintro e w1 ⟨rfl, rfl⟩)
    exact ⟨rfl, rfl, rfl⟩
end Go.Proofs.Ytjcbphhemmdnjaa
