/- package region: within, by the kit's contract of slices.BinarySearch. -/
import Derived.Test.YtkpamofamcndnaaRegA
import Derived.Shelf.Slices.SearchI
namespace Go.Proofs.Ytkpamofamcndnaa
open Go.RowKit Go.Shelf
set_option linter.unusedSimpArgs false
set_option linter.unusedVariables false
-- below_from_drew
attribute [local go_sem] ov_cell_same ov_cell_other ov_frozen_same ov_frozen_other ov_size ov_setCell_same ov_setCell_other cell_alloc_old frozen_alloc_old setCell_alloc_old old_alloc old_ov old_drew old_drewN old_setCell

/-- The library's numbers here. -/
def rhoS : Ren := ⟨fun n => if n = 25 then 80 else if n = 31 then 88 else if n = 32 then 89 else if n = 37 then 95 else 0, fun t => if t = 3 then 3 else if t = 4 then 4 else if t = 22 then 71 else if t = 40 then 144 else t, fun g => g⟩
set_option maxRecDepth 1000000 in
theorem laysS : Lays2.n25 Try.prog rhoS where
  mixed := by kernel_rfl
  f25 := by kernel_rfl
  f31 := by kernel_rfl
  f32 := by kernel_rfl
  f37 := by kernel_rfl
  t0 := by kernel_rfl
  a0 := fun w => by kernel_rfl
  z0 := fun w => by kernel_rfl
  v0 := fun w => by kernel_rfl
  t3 := by kernel_rfl
  a3 := fun w => by kernel_rfl
  z3 := fun w => by kernel_rfl
  v3 := fun w => by kernel_rfl
  t4 := by kernel_rfl
  a4 := fun w => by kernel_rfl
  z4 := fun w => by kernel_rfl
  v4 := fun w => by kernel_rfl
  t22 := by kernel_rfl
  a22 := fun w => by kernel_rfl
  z22 := fun w => by kernel_rfl
  v22 := fun w => by kernel_rfl
  t40 := by kernel_rfl
  a40 := fun w => by kernel_rfl
  z40 := fun w => by kernel_rfl
  v40 := fun w => by kernel_rfl
theorem inR_count (x : Int) : ∀ l : List Int, inR l x = decide ((l.countP fun e => decide (e ≤ x)) % 2 = 1)
  | [] => rfl
  | e :: es => by
    show (decide (e ≤ x) != inR es x) = _
    rw [inR_count x es, List.countP_cons]
    by_cases c : e ≤ x
    · rw [decide_eq_true c, if_pos rfl]
      rcases Nat.mod_two_eq_zero_or_one (es.countP fun e => decide (e ≤ x)) with q | q
      · rw [decide_eq_false (by omega), decide_eq_true (by omega)]; rfl
      · rw [decide_eq_true (by omega), decide_eq_false (by omega)]; rfl
    · rw [decide_eq_false c, if_neg (by simp)]
      simp
theorem cnt_zero {m : Int} {p : Int → Bool} : ∀ {l : List Int}, Up m l → (∀ e, m < e → p e = false) → l.countP p = 0
  | [], _, _ => rfl
  | e :: es, h, hp => by
    rw [List.countP_cons, cnt_zero h.2 (fun f hf => hp f (by have := h.1; omega)), hp e h.1]; rfl
theorem cnt_le (x : Int) : ∀ {l : List Int} {m : Int}, Up m l → (l.countP fun e => decide (e ≤ x)) = (l.countP fun e => decide (e < x)) + if l.contains x then 1 else 0
  | [], m, _ => rfl
  | e :: es, m, h => by
    rw [List.countP_cons, List.countP_cons, List.contains_cons]
    rcases Int.lt_trichotomy e x with c | c | c
    · have ih := cnt_le x h.2
      have hx : (x == e) = false := by simp; omega
      rw [ih, decide_eq_true (show e ≤ x by omega), decide_eq_true c, hx, Bool.false_or]
      simp; omega
    · subst c
      rw [cnt_zero h.2 (fun f hf => by simp; omega), cnt_zero h.2 (fun f hf => by simp; omega)]
      simp
    · have hx : (x == e) = false := by simp; omega
      have hn : es.contains x = false := by
        rw [List.contains_eq_mem, decide_eq_false]
        exact fun q => by have := h.2.lt x q; omega
      rw [cnt_zero h.2 (fun f hf => by simp; omega), cnt_zero h.2 (fun f hf => by simp; omega), hx, hn, decide_eq_false (show ¬ e ≤ x by omega), decide_eq_false (show ¬ e < x by omega)]
      rfl
theorem up_sorted : ∀ {l : List Int} {m : Int}, Up m l → l.Pairwise (· ≤ ·)
  | [], m, _ => .nil
  | e :: es, m, h => .cons (fun f hf => by have := h.2.lt f hf; omega) (up_sorted h.2)
set_option maxRecDepth 100000 in
/-- The search in no edges. -/
theorem search_none (a : Option Addr) (c : Nat) (x : Int) (w : World) : Calls Try.prog 80 #[.slice a 0 c, .int .i64 x] w fun e w' => e = .returned (.tuple #[.int .i64 0, .bool false]) ∧ Below w.heap.size w w' := by
  go_enter Try.func80, Try.ntmps80
  go_wp2_with fail
  go_loopw [7, 8] (fun iv jv wr => iv = .int .i64 0 ∧ jv = .int .i64 0 ∧ wr = w) (fun _ _ _ => 0)
  case atStart => exact ⟨rfl, rfl, rfl⟩
  case round =>
    obtain ⟨rfl, rfl, rfl⟩ := hrel
    go_wp2_with fail
    go_ret2
    exact ⟨rfl, by (repeat' (first | (with_reducible exact Below.refl _ _) | (with_reducible assumption) | (with_reducible refine below_from_drew ?_) | (with_reducible refine Below.alloc ?_ ?_ _) | (with_reducible refine Below.drew ?_) | (with_reducible refine below_drewN ?_ _) | (with_reducible refine Below.setCell ?_ ?_ _) | (with_reducible refine below_via ?_ (by assumption) ?_) | (with_reducible refine below_ov ?_ ?_ _ _) | go_size))⟩
set_option maxRecDepth 100000 in
/-- Whether a place lies within runs. -/
theorem within_any (a : Option Addr) (n c : Nat) (x m : Int) (es : List Int) (w : World) (hn : es.length = n) (hmx : n ≤ 100000000000) (hu : Up m es) (h : IntsAt w a es) :
    Calls Try.prog 57 #[.slice a n c, .int .i64 x] w fun e w' => e = .returned (.bool (inR es x)) ∧ Below w.heap.size w w' := by
  have HS : Hid (Calls Try.prog 80 #[.slice a n c, .int .i64 x] w fun e w' => e = .returned (.tuple #[.int .i64 ((es.countP fun e => decide (e < x)) : Nat), .bool (es.contains x)]) ∧ Below w.heap.size w w') := by
    rcases Nat.eq_zero_or_pos n with h0 | h0
    · subst h0
      have he : es = [] := List.length_eq_zero_iff.1 hn
      subst he
      exact search_none a c x w
    · obtain ⟨b, off, rfl, hb, hc⟩ := h (by omega)
      have q := Any.slices_BinarySearch_int laysS b off n c es x w (by omega) (by omega) hc (by rw [List.take_of_length_le (by omega)]; exact up_sorted hu)
      rw [List.take_of_length_le (by omega)] at q
      refine Calls.mono q ?_
      rintro e w1 ⟨he, k, rfl⟩
      exact ⟨he, below_drewN (Below.refl _ _) _⟩
  have hin : inR es x = decide (((es.countP fun e => decide (e < x)) + if es.contains x then 1 else 0) % 2 = 1) := by rw [inR_count, cnt_le x hu]
  have hcl : (es.countP fun e => decide (e < x)) ≤ n := by rw [← hn]; exact List.countP_le_length
  have HIN := Lib.hid hin
  clear hin hn hu h
  generalize (es.countP fun e => decide (e < x)) = k at *
  generalize es.contains x = is at *
  go_enter Try.func57, Try.ntmps57
  go_wp2_with fail
  refine HS.out.mono ?_
  rintro e w1 ⟨rfl, hb⟩
  have HB := Lib.hid hb
  clear hb
  cases is
  · have e1 : ((k : Int) % 2 == 1) = decide (k % 2 = 1) := by
      by_cases q : k % 2 = 1
      · rw [decide_eq_true q]; simp; omega
      · rw [decide_eq_false q]; simp; omega
    go_wp2_with fail
    go_ret
    exact ⟨by rw [HIN.out]; simp, HB.out⟩
  · have e1 : (((k : Int) + 1) % 2 == 1) = decide ((k + 1) % 2 = 1) := by
      by_cases q : (k + 1) % 2 = 1
      · rw [decide_eq_true q]; simp; omega
      · rw [decide_eq_false q]; simp; omega
    go_wp2_with fail
    go_ret
    exact ⟨by rw [HIN.out]; simp, HB.out⟩
end Go.Proofs.Ytkpamofamcndnaa
