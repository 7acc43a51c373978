/- Slices of the call's own, carried over calls; their cells. -/
import Derived.Test.YtjcbphhemmdnjaaBlk
import Derived.Laws.AppendOwn
namespace Go.Proofs.Ytjcbphhemmdnjaa
open Go Go.RowKit
set_option linter.unusedSimpArgs false
set_option linter.unusedVariables false

theorem row_block {w : World} {base size n : Nat} {e : TypeId} {v : Value} {xs : List Value} (h : w.ownsRow base e size v n xs) : ∀ g, v.ownBlock = some g → base ≤ g := by
  intro g hg
  rcases h.2 with ⟨rfl, _⟩ | ⟨g', cap, cur, rfl, hb, _⟩
  · cases hg
  · simp [Value.ownBlock] at hg; omega
theorem grown_below {W w1 : World} (hb : Below W.heap.size W w1) : W.grownBy w1 none := ⟨hb.os, hb.tape, hb.output, hb.size, fun k hk _ => hb.block k hk⟩
theorem row_below {W w1 : World} {base size n : Nat} {e : TypeId} {v : Value} {xs : List Value} (hb : Below W.heap.size W w1) (h : W.ownsRow base e size v n xs) : w1.ownsRow base e size v n xs :=
  h.kept (grown_below hb) (by cases v.ownBlock <;> simp)
theorem has_grown {w w' : World} {row : Option Nat} {b : Nat} {cs : Array Value} {T : TypeId} (hg : w.grownBy w' row) (h : Has w b cs T) (hne : row ≠ some b) : Has w' b cs T := (hg.block b h.lt (Ne.symm hne)).trans h
/-- The block that an owned slice lies in is none below its base. -/
theorem row_ne {w : World} {base size n b : Nat} {e : TypeId} {v : Value} {xs : List Value} (h : w.ownsRow base e size v n xs) (hb : b < base) : v.ownBlock ≠ some b := fun hv => by have := row_block h b hv; omega
theorem row_ne_new {w : World} {base size n b : Nat} {e : TypeId} {v : Value} {xs : List Value} (h : w.ownsRow base e size v n xs) (hb : w.heap.size ≤ b) : v.ownBlock ≠ some b := fun hv => by have := (h.lt b hv).2; omega
/-- What an owned slice reads as. -/
theorem row_reads {w : World} {base size n : Nat} {e : TypeId} {v : Value} {xs : List Value} (h : w.ownsRow base e size v n xs) :
    ∃ a cap, v = .slice a n cap ∧ n ≤ cap ∧ cap ≤ 9223372036854775807 ∧ (0 < n → ∃ g, a = some ⟨g, 0, none⟩ ∧ base ≤ g ∧ g < w.heap.size ∧ ∀ j u, xs[j]? = some u → w.cell? ⟨g, j, none⟩ = some u) := by
  rcases h.2 with ⟨rfl, h0⟩ | ⟨g, cap, cur, rfl, hb, hh, hn, hc, hs, ht⟩
  · exact ⟨none, 0, by rw [h0], by omega, by omega, fun h => by omega⟩
  · refine ⟨_, cap, rfl, hn, by simpa [maxLen] using hc, fun h0 => ⟨g, rfl, hb, ?_, fun j u hj => ?_⟩⟩
    · rcases Nat.lt_or_ge g w.heap.size with h' | h'
      · exact h'
      · rw [Array.getElem?_eq_none h'] at hh; cases hh
    · have hlt : j < n * size := by
        have h1 : j < xs.length := (List.getElem?_eq_some_iff.1 hj).1
        rw [h.1] at h1
        exact h1
      have h1 : cur[j]? = some u := by
        rw [← ht, List.getElem?_take_of_lt hlt] at hj
        rw [← Array.getElem?_toList]
        exact hj
      simp [World.cell?, hh, h1]
theorem add_off (b j : Nat) : (⟨b, 0, none⟩ : Addr).add j = ⟨b, j, none⟩ := by cases j <;> simp [Addr.add]
theorem news_has {w : World} {b : Nat} {cs : List Value} {T : TypeId} (h : Has w b cs.toArray T) : ∀ j u, cs[j]? = some u → w.cell? ((⟨b, 0, none⟩ : Addr).add j) = some u := by
  intro j u hj
  unfold Has at h
  rw [add_off]
  simp [World.cell?, h, hj]
/-- The cells of a block just made. -/
theorem news_new {w : World} {cs : List Value} {T : TypeId} : ∀ j u, cs[j]? = some u → (w.alloc (.cells cs.toArray T)).cell? ((⟨w.heap.size, 0, none⟩ : Addr).add j) = some u := news_has (has_new rfl)
theorem one_of {l : List Value} (h : allOne l = true) : ∀ u ∈ l, u.oneCell' = true := by
  intro u hu
  have h1 := allOne_spec l h
  rw [Array.all_eq_true] at h1
  obtain ⟨k, hk, rfl⟩ := List.mem_iff_getElem.1 hu
  exact h1 k (by simpa using hk)
theorem has_cell {w : World} {b o : Nat} {cs : Array Value} {T : TypeId} {v : Value} (h : Has w b cs T) (hv : cs[o]? = some v) : w.cell? ⟨b, o, none⟩ = some v := by
  unfold Has at h
  simp [World.cell?, h, hv]
theorem has4 {w : World} {b : Nat} {v0 v1 v2 v3 : Value} {T : TypeId} (h : Has w b #[v0, v1, v2, v3] T) : w.cell? ⟨b, 0, none⟩ = some v0 ∧ w.cell? ⟨b, 1, none⟩ = some v1 ∧ w.cell? ⟨b, 2, none⟩ = some v2 ∧ w.cell? ⟨b, 3, none⟩ = some v3 := ⟨has_cell h rfl, has_cell h rfl, has_cell h rfl, has_cell h rfl⟩
/-- What was there before a call that only makes memory. -/
theorem bcell3 {W w1 : World} (hb : Below W.heap.size W w1) : (∀ b o, b < W.heap.size → w1.cell? ⟨b, o, none⟩ = W.cell? ⟨b, o, none⟩) ∧ (∀ b o, b < W.heap.size → w1.frozen? ⟨b, o, none⟩ = W.frozen? ⟨b, o, none⟩) ∧ (∀ b, b < W.heap.size → Old w1 b) :=
  ⟨(bcell hb).1, (bcell hb).2, fun b h => Nat.lt_of_lt_of_le h hb.size⟩
/-- Cells of elements of four. -/
def cells4 (f0 f1 f2 f3 : Nat → Int) (k : Nat) : List Value := (List.range k).flatMap fun j => [.int .i64 (f0 j), .int .i64 (f1 j), .int .i64 (f2 j), .int .i64 (f3 j)]
theorem cells4_succ (f0 f1 f2 f3 : Nat → Int) (k : Nat) : cells4 f0 f1 f2 f3 (k + 1) = cells4 f0 f1 f2 f3 k ++ [.int .i64 (f0 k), .int .i64 (f1 k), .int .i64 (f2 k), .int .i64 (f3 k)] := by
  simp [cells4, List.range_succ]
theorem cells4_len (f0 f1 f2 f3 : Nat → Int) (k : Nat) : (cells4 f0 f1 f2 f3 k).length = k * 4 := by
  induction k with
  | zero => rfl
  | succ k ih => rw [cells4_succ, List.length_append, ih]; simp; omega
theorem cells4_get (f0 f1 f2 f3 : Nat → Int) {j k : Nat} (h : j < k) : (cells4 f0 f1 f2 f3 k)[j * 4]? = some (.int .i64 (f0 j)) ∧ (cells4 f0 f1 f2 f3 k)[j * 4 + 1]? = some (.int .i64 (f1 j)) ∧ (cells4 f0 f1 f2 f3 k)[j * 4 + 2]? = some (.int .i64 (f2 j)) ∧ (cells4 f0 f1 f2 f3 k)[j * 4 + 3]? = some (.int .i64 (f3 j)) := by
  induction k with
  | zero => omega
  | succ k ih =>
    rw [cells4_succ]
    have hl := cells4_len f0 f1 f2 f3 k
    by_cases e : j = k
    · subst e
      refine ⟨?_, ?_, ?_, ?_⟩
      all_goals
        rw [List.getElem?_append_right (by omega), hl]
        simp [show ∀ a b : Nat, a + b - a = b from fun a b => by omega]
    · obtain ⟨h0, h1, h2, h3⟩ := ih (by omega)
      refine ⟨?_, ?_, ?_, ?_⟩
      all_goals
        rw [List.getElem?_append_left (by omega)]
        assumption
end Go.Proofs.Ytjcbphhemmdnjaa
