/- The law MarginSums, walked. -/
import Derived.Test.YtmfbelepmbodlaaMarg
namespace Go.Proofs.Ytmfbelepmbodlaa
open Go.RowKit
set_option linter.unusedSimpArgs false
set_option linter.unusedVariables false
attribute [local go_sem] ov_cell_same ov_cell_other ov_frozen_same ov_frozen_other ov_size ov_setCell_same ov_setCell_other cell_alloc_old frozen_alloc_old setCell_alloc_old old_alloc old_ov old_drew old_drewN old_setCell
attribute [local go_sem ↓] run_max2 run_min2

theorem upOf_nonneg (xs : List Int) : 0 ≤ upOf xs := by
  have : ∀ (l : List Int) (a : Int), 0 ≤ a → 0 ≤ l.foldl (fun a x => max a (max x 0)) a := by
    intro l
    induction l with
    | nil => intro a h; exact h
    | cons x l ih => intro a h; exact ih _ (by dsimp only; omega)
  exact this xs 0 (by omega)
theorem dnOf_nonpos (xs : List Int) : dnOf xs ≤ 0 := by
  have : ∀ (l : List Int) (a : Int), a ≤ 0 → l.foldl (fun a x => min a (min x 0)) a ≤ 0 := by
    intro l
    induction l with
    | nil => intro a h; exact h
    | cons x l ih => intro a h; exact ih _ (by dsimp only; omega)
  exact this xs 0 (by omega)
theorem upOf_le {xs : List Int} (h : ∀ x ∈ xs, x ≤ 17592186044415) : upOf xs ≤ 17592186044415 := by
  have : ∀ (l : List Int) (a : Int), (∀ x ∈ l, x ≤ 17592186044415) → a ≤ 17592186044415 → l.foldl (fun a x => max a (max x 0)) a ≤ 17592186044415 := by
    intro l
    induction l with
    | nil => intro a _ h; exact h
    | cons x l ih => intro a h1 h; exact ih _ (fun y hy => h1 y (List.mem_cons_of_mem _ hy)) (by have := h1 x (List.mem_cons_self ..); dsimp only; omega)
  exact this xs 0 h (by omega)
theorem dnOf_ge {xs : List Int} (h : ∀ x ∈ xs, -17592186044415 ≤ x) : -17592186044415 ≤ dnOf xs := by
  have : ∀ (l : List Int) (a : Int), (∀ x ∈ l, -17592186044415 ≤ x) → -17592186044415 ≤ a → -17592186044415 ≤ l.foldl (fun a x => min a (min x 0)) a := by
    intro l
    induction l with
    | nil => intro a _ h; exact h
    | cons x l ih => intro a h1 h; exact ih _ (fun y hy => h1 y (List.mem_cons_of_mem _ hy)) (by have := h1 x (List.mem_cons_self ..); dsimp only; omega)
  exact this xs 0 h (by omega)
theorem tmod44 (x : Int) : -17592186044415 ≤ x.tmod 17592186044416 ∧ x.tmod 17592186044416 ≤ 17592186044415 := by
  have h1 := Int.tmod_lt_of_pos x (b := 17592186044416) (by omega)
  have h2 := Int.lt_tmod_of_pos x (b := 17592186044416) (by omega)
  omega
theorem cut44_in (xs : List Int) : ∀ x ∈ cut44 xs, -17592186044415 ≤ x ∧ x ≤ 17592186044415 := by
  intro x hx
  obtain ⟨y, _, rfl⟩ := List.mem_map.1 hx
  exact tmod44 y
theorem sum_in {xs : List Int} (h : ∀ x ∈ xs, -17592186044415 ≤ x ∧ x ≤ 17592186044415) : sumE xs = 0 ∧ sumN xs = upOf xs + dnOf xs := by
  have h1 := upOf_nonneg xs
  have h2 := dnOf_nonpos xs
  have h3 := upOf_le (fun x hx => (h x hx).2)
  have h4 := dnOf_ge (fun x hx => (h x hx).1)
  have e : addF 0 [upOf xs, dnOf xs] = some (upOf xs + dnOf xs) := by
    have c1 : clip (upOf xs) = upOf xs := by unfold clip; omega
    have c2 : clip (dnOf xs) = dnOf xs := by unfold clip; omega
    simp only [addF, c1, c2]
    rw [if_pos (by omega), if_pos (by omega)]
    congr 1; omega
  simp [sumE, sumN, e]
theorem sumE_one (x : Int) : sumE [x] = if -17592186044416 ≤ x ∧ x ≤ 17592186044416 then 0 else 2 := by
  have e1 : upOf [x] = max x 0 := by simp [upOf]; omega
  have e2 : dnOf [x] = min x 0 := by simp [dnOf]; omega
  unfold sumE
  rw [e1, e2]
  by_cases h : -17592186044416 ≤ x ∧ x ≤ 17592186044416
  · rw [if_pos h]
    have c1 : clip (max x 0) = max x 0 := by unfold clip; omega
    have c2 : clip (min x 0) = min x 0 := by unfold clip; omega
    simp only [addF, c1, c2]
    rw [if_pos (by omega), if_pos (by omega)]
  · rw [if_neg h]
    have : addF 0 [max x 0, min x 0] = none := by
      simp only [addF]
      by_cases h1 : 17592186044416 < x
      · rw [if_neg (by unfold clip; omega)]
      · have hx : x < -17592186044416 := by omega
        rw [if_pos (by unfold clip; omega), if_neg (by unfold clip; omega)]
    rw [this]
theorem reads_of_row {w : World} {base : Nat} {v : Value} {xs : List Int} {e : TypeId} (h : w.ownsRow base e 1 v xs.length (xs.map (Value.int .i64))) : ∃ a cap, v = .slice a xs.length cap ∧ Reads w a xs := by
  rcases h.2 with ⟨rfl, h0⟩ | ⟨g, cap, cur, rfl, hb, hh, hn, hc, hs, ht⟩
  · exact ⟨none, 0, by rw [h0], fun h => by omega⟩
  · refine ⟨_, cap, rfl, fun h0 => ⟨g, rfl, ?_, fun i hi => ?_⟩⟩
    · rcases Nat.lt_or_ge g w.heap.size with h' | h'
      · exact h'
      · rw [Array.getElem?_eq_none h'] at hh; cases hh
    · have h1 : cur[i]? = some (.int .i64 (xs.getD i 0)) := by
        have h2 : (cur.toList.take (xs.length * 1))[i]? = (xs.map (Value.int .i64))[i]? := by rw [ht]
        rw [List.getElem?_take_of_lt (by omega)] at h2
        rw [← Array.getElem?_toList, h2]
        simp [hi]
      simp [World.cell?, hh, h1]

set_option maxRecDepth 100000 in
set_option maxHeartbeats 1000000 in
theorem rsum_any (a : Option Addr) (cap : Nat) (xs : List Int) (w : World) (hm : xs.length ≤ 9223372036854775807) (hc : Reads w a xs) (hin : ∀ x ∈ xs, -17592186044415 ≤ x ∧ x ≤ 17592186044415) :
    Calls Try.prog 33 #[.slice a xs.length cap] w fun e w' => e = .returned (.int .i64 (upOf xs + dnOf xs)) ∧ w = w' := by
  have HC := Lib.hid hc; clear hc
  have h1 := upOf_nonneg xs
  have h2 := dnOf_nonpos xs
  have h3 := upOf_le (fun x hx => (hin x hx).2)
  have h4 := dnOf_ge (fun x hx => (hin x hx).1)
  clear hin
  generalize hl : xs.length = len at hm ⊢
  have HL := Lib.hid hl; clear hl
  go_enter Try.func33, Try.ntmps33
  go_wp2_with fail
  go_loop [3, 4, 5] (fun u d i => ∃ k : Nat, k ≤ len ∧ i = .int .i64 k ∧ u = .int .i64 (upOf (xs.take k)) ∧ d = .int .i64 (dnOf (xs.take k))) (fun _ _ i => len - (intOf i).toNat)
  case atStart => exact ⟨0, Nat.zero_le _, rfl, rfl, rfl⟩
  case round =>
    obtain ⟨k, hk, rfl, rfl, rfl⟩ := hrel
    by_cases hlt : k < len
    · obtain ⟨b, rfl, h0, hcs⟩ := HC.out (by rw [HL.out]; omega)
      have hcell := hcs k (by rw [HL.out]; exact hlt)
      clear hcs
      have hs := take_snoc (xs := xs) (k := k) (by rw [HL.out]; exact hlt)
      have e1 : upOf (xs.take (k + 1)) = max (upOf (xs.take k)) (max (xs.getD k 0) 0) := by rw [hs, upOf_snoc]
      have e2 : dnOf (xs.take (k + 1)) = min (dnOf (xs.take k)) (min (xs.getD k 0) 0) := by rw [hs, dnOf_snoc]
      clear hs
      have E1 := Lib.hid e1; clear e1
      have E2 := Lib.hid e2; clear e2
      have p1 := upOf_nonneg (xs.take k)
      have p2 := dnOf_nonpos (xs.take k)
      generalize xs.getD k 0 = x at *
      generalize upOf (xs.take k) = U at *
      generalize dnOf (xs.take k) = D at *
      go_wp2
      all_goals
        go_round
        case rel => exact ⟨k + 1, by omega, by go_num, by rw [E1.out]; congr 1; omega, by rw [E2.out]; congr 1; omega⟩
        case measure => simp [intOf]; omega
    · have e : xs.take k = xs := List.take_of_length_le (by rw [HL.out]; omega)
      rw [e]
      clear e
      go_wp2
      go_ret
      exact ⟨rfl, rfl⟩

theorem mof_c (w : World) : Calls Try.prog 34 #[.int .i64 (-3)] w fun e w' => e = .returned (.agg #[.int .i64 (0), .int .i64 (-3)]) ∧ Below w.heap.size w w' := mof_any (-3) w
theorem sumN_c : sumN [10, 20, -5] = 15 := by decide
theorem sumE_c : sumE [10, 20, -5] = 0 := by decide

set_option maxRecDepth 100000 in
set_option maxHeartbeats 1000000 in
theorem speaks16_any (w : World) : Calls Try.prog 30 #[] w fun e w' => e = .returned (.bool true) ∧ Below w.heap.size w w' := by
  go_enter Try.func30, Try.ntmps30
  go_wp2_with fail
  refine (sum_any (some _) 3 [10, 20, -5] _ (by simp) (fun _ => ⟨_, rfl, by simp, by intro i hi; rcases i with _ | _ | _ | i <;> first | (simp; done) | (simp at hi; done) | (simp at hi; omega)⟩)).mono ?_
  rw [sumN_c, sumE_c]
  rintro e w1 ⟨rfl, hb⟩
  have hB : Below w.heap.size w w1 := by (repeat' (first | (with_reducible exact Below.refl _ _) | (with_reducible assumption) | (with_reducible refine Below.alloc ?_ ?_ _) | (with_reducible refine Below.drew ?_) | (with_reducible refine below_drewN ?_ _) | (with_reducible refine Below.setCell ?_ ?_ _) | (with_reducible refine below_via ?_ (by assumption) ?_) | (with_reducible refine below_ov ?_ ?_ _ _) | go_size))
  clear hb
  have hq := hB.size
  go_wp2_with (go_at_call 34; (with_reducible refine (mof_c _).mono ?_); rintro e u1 ⟨rfl, hb⟩; have hz := hb.size; refine (fun hB => ?_ : Below w.heap.size w u1 → _) ?_; rotate_left; (focus ((repeat' (first | (with_reducible exact Below.refl _ _) | (with_reducible assumption) | (with_reducible refine Below.alloc ?_ ?_ _) | (with_reducible refine Below.drew ?_) | (with_reducible refine below_drewN ?_ _) | (with_reducible refine Below.setCell ?_ ?_ _) | (with_reducible refine below_via ?_ (by assumption) ?_) | (with_reducible refine below_ov ?_ ?_ _ _) | go_size)); done)); (try simp only [World.size_alloc, World.size_setCell, World.size_drew, ov_size] at hz))
  go_ret
  exact ⟨rfl, by (repeat' (first | (with_reducible exact Below.refl _ _) | (with_reducible assumption) | (with_reducible refine Below.alloc ?_ ?_ _) | (with_reducible refine Below.drew ?_) | (with_reducible refine below_drewN ?_ _) | (with_reducible refine Below.setCell ?_ ?_ _) | (with_reducible refine below_via ?_ (by assumption) ?_) | (with_reducible refine below_ov ?_ ?_ _ _) | go_size))⟩

set_option maxRecDepth 100000 in
set_option maxHeartbeats 1000000 in
theorem sums_any (a : Option Addr) (cap : Nat) (xs : List Int) (far : Int) (w : World) (hm : xs.length ≤ 9223372036854775807)
    (hc : 0 < xs.length → ∃ b off, a = some ⟨b, off, none⟩ ∧ b < w.heap.size ∧ ∀ i, i < xs.length → w.cell? ⟨b, off + i, none⟩ = some (.int .i64 (xs.getD i 0))) :
    Calls Try.prog 5 #[.slice a xs.length cap, .int .i64 far] w fun e w' => e = .returned (.bool true) ∧ Below w.heap.size w w' := by
  have HC := Lib.hid hc; clear hc
  obtain ⟨s1, s2⟩ := sum_in (cut44_in xs)
  have S3 := Lib.hid (sumE_one far)
  have S1 := Lib.hid s1; have S2 := Lib.hid s2; clear s1 s2
  have CL := Lib.hid (cut44_len xs)
  have CI := Lib.hid (cut44_in xs)
  go_enter Try.func5, Try.ntmps5
  go_wp2_with (go_at_call 30; (with_reducible refine (speaks16_any _).mono ?_); rintro e u1 ⟨rfl, hb⟩; have hz := hb.size; refine (fun hB => ?_ : Below w.heap.size w u1 → _) ?_; rotate_left; (focus ((repeat' (first | (with_reducible exact Below.refl _ _) | (with_reducible assumption) | (with_reducible refine Below.alloc ?_ ?_ _) | (with_reducible refine Below.drew ?_) | (with_reducible refine below_drewN ?_ _) | (with_reducible refine Below.setCell ?_ ?_ _) | (with_reducible refine below_via ?_ (by assumption) ?_) | (with_reducible refine below_ov ?_ ?_ _ _) | go_size)); done)); (try simp only [World.size_alloc, World.size_setCell, World.size_drew, ov_size] at hz))
  refine (short_any a cap xs _ hm (fun h0 => by
    obtain ⟨b, off, e1, e2, e3⟩ := HC.out h0
    exact ⟨b, off, e1, Nat.lt_of_lt_of_le e2 hB.size, fun i hi => (hB.cell (p := ⟨b, off + i, none⟩) e2).trans (e3 i hi)⟩)).mono ?_
  rintro e w2 ⟨v, rfl, hb2, hown⟩
  obtain ⟨a2, cap2, rfl, hr2⟩ := reads_of_row hown
  clear hown
  have R2 := Lib.hid hr2; clear hr2
  have hB2 : Below w.heap.size w w2 := below_via hB hb2 hB.size
  clear hb2
  go_wp2_with fail
  refine (sum_any a2 cap2 (cut44 xs) _ (by have := CL.out; omega) R2.out).mono ?_
  rw [S1.out, S2.out]
  rintro e w3 ⟨rfl, hb3⟩
  have R3 := Lib.hid (R2.out.below hb3)
  have hB3 : Below w.heap.size w w3 := below_via hB2 hb3 hB2.size
  clear hb3
  go_wp2_with fail
  refine (sum_any (some _) 1 [far] _ (by simp) (fun _ => ⟨_, rfl, by simp, by intro i hi; rcases i with _ | i <;> first | (simp; done) | (simp at hi; done) | (simp at hi; omega)⟩)).mono ?_
  rintro e w4 ⟨rfl, hb4⟩
  have R4 := Lib.hid ((R3.out.below ((Below.refl _ _).alloc (Nat.le_refl _) _)).below hb4)
  have hq3 := hB3.size
  have hB4 : Below w.heap.size w w4 := by (repeat' (first | (with_reducible exact Below.refl _ _) | (with_reducible assumption) | (with_reducible refine Below.alloc ?_ ?_ _) | (with_reducible refine Below.drew ?_) | (with_reducible refine below_drewN ?_ _) | (with_reducible refine Below.setCell ?_ ?_ _) | (with_reducible refine below_via ?_ (by assumption) ?_) | (with_reducible refine below_ov ?_ ?_ _ _) | go_size))
  clear hb4
  rw [S3.out]
  by_cases hf : -17592186044416 ≤ far ∧ far ≤ 17592186044416
  · rw [if_pos hf]
    obtain ⟨f1, f2⟩ := hf
    go_wp2_with (go_at_call 33; refine (rsum_any a2 cap2 (cut44 xs) _ (by have := CL.out; omega) R4.out CI.out).mono ?_; rintro e w5 ⟨rfl, rfl⟩)
    go_ret
    exact ⟨rfl, hB4⟩
  · rw [if_neg hf]
    by_cases f1 : far < -17592186044416
    · clear hf
      go_wp2_with (go_at_call 33; refine (rsum_any a2 cap2 (cut44 xs) _ (by have := CL.out; omega) R4.out CI.out).mono ?_; rintro e w5 ⟨rfl, rfl⟩)
      go_ret
      exact ⟨rfl, hB4⟩
    · have f2 : 17592186044416 < far := by omega
      have f3 : -17592186044416 ≤ far := by omega
      clear hf f1
      go_wp2_with (go_at_call 33; refine (rsum_any a2 cap2 (cut44 xs) _ (by have := CL.out; omega) R4.out CI.out).mono ?_; rintro e w5 ⟨rfl, rfl⟩)
      go_ret
      exact ⟨ret_bool (by simp; omega), hB4⟩
theorem sums_row (a : Option Addr) (cap : Nat) (xs : List Int) (far : Int) (w : World) (h : xs.length ≤ 9223372036854775807 ∧ (∀ x ∈ xs, (Lit.int .i64 x).wf = true) ∧ (0 < xs.length → ∃ b off, a = some ⟨b, off, none⟩ ∧ b < w.heap.size ∧ ∀ i, i < xs.length → w.cell? ⟨b, off + i, none⟩ = some (.int .i64 (xs.getD i 0)))) :
    Calls Try.prog 5 #[.slice a xs.length cap, .int .i64 far] w fun e w' => e = .returned (.bool true) ∧ Below w.heap.size w w' := sums_any a cap xs far w h.1 h.2.2
end Go.Proofs.Ytmfbelepmbodlaa
