/- Worlds that are alike but for one block; a region that stores into that block between its reads. -/
import Derived.Test.YtjcbphhemmdnjaaRow
import Derived.Test.YtjcbphhemmdnjaaRegion
namespace Go.Proofs.Ytjcbphhemmdnjaa
open Go Go.RowKit
set_option linter.unusedSimpArgs false
set_option linter.unusedVariables false

theorem ov_ov_same {u : World} {b : Nat} {c c' : Array Value} {T T' : TypeId} : ov (ov u b c T) b c' T' = ov u b c' T' := by
  unfold ov
  refine congrArg (fun h => ({ u with heap := h } : World)) (Array.ext_getElem? fun i => ?_)
  simp only [Array.getElem?_setIfInBounds, Array.size_setIfInBounds]
  by_cases e : b = i
  · subst e; simp
  · simp [e]
/-- All that was there is as it was, but for block b. -/
structure But (b : Nat) (B : Nat) (w w' : World) : Prop where
  os : w'.os = w.os
  tape : w'.tape = w.tape
  output : w'.output = w.output
  size : w.heap.size ≤ w'.heap.size
  block : ∀ k, k < B → k ≠ b → w'.heap[k]? = w.heap[k]?
theorem But.refl (b B : Nat) (w : World) : But b B w w := ⟨rfl, rfl, rfl, Nat.le_refl _, fun _ _ _ => rfl⟩
theorem But.of {b B : Nat} {w w' : World} (h : Below B w w') : But b B w w' := ⟨h.os, h.tape, h.output, h.size, fun k hk _ => h.block k hk⟩
theorem But.trans {b B : Nat} {w v v' : World} (h : But b B w v) (k : But b B v v') : But b B w v' :=
  ⟨k.os.trans h.os, k.tape.trans h.tape, k.output.trans h.output, Nat.le_trans h.size k.size, fun i hi hn => (k.block i hi hn).trans (h.block i hi hn)⟩
theorem But.then {b B : Nat} {w v v' : World} (h : But b B w v) (k : Below v.heap.size v v') (hB : B ≤ v.heap.size) : But b B w v' := h.trans (.of (k.mono hB))
theorem But.ovs {b B : Nat} {w v : World} (h : But b B w v) (c : Array Value) (T : TypeId) : But b B w (ov v b c T) :=
  ⟨h.os, h.tape, h.output, by rw [ov_size]; exact h.size, fun i hi hn => (Array.getElem?_setIfInBounds_ne (Ne.symm hn)).trans (h.block i hi hn)⟩
theorem But.ovn {b B b' : Nat} {w v : World} (h : But b B w v) (hb : B ≤ b') (c : Array Value) (T : TypeId) : But b B w (ov v b' c T) :=
  ⟨h.os, h.tape, h.output, by rw [ov_size]; exact h.size, fun i hi hn => (Array.getElem?_setIfInBounds_ne (by omega)).trans (h.block i hi hn)⟩
theorem But.alloc {b B : Nat} {w v : World} (h : But b B w v) (hB : B ≤ v.heap.size) (o : Obj) : But b B w (v.alloc o) :=
  h.trans (.of ((Below.refl B v).alloc hB o))
theorem But.drew {b B : Nat} {w v : World} (h : But b B w v) : But b B w v.drew := ⟨h.os, h.tape, h.output, h.size, h.block⟩
/-- Told apart again: what is left is as it was. -/
theorem But.apart {b : Nat} {w w' : World} {c c' : Array Value} {T : TypeId} (h : But b w.heap.size w w') (h0 : Has w b c T) (h1 : Has w' b c' T) : ∃ u, Below w.heap.size w u ∧ w' = ov u b c' T := by
  refine ⟨ov w' b c T, ⟨h.os, h.tape, h.output, by rw [ov_size]; exact h.size, fun k hk => ?_⟩, by rw [ov_ov_same, ov_self h1]⟩
  by_cases e : k = b
  · subst e; exact (has_ov_same h1.lt).trans h0.symm
  · exact (Array.getElem?_setIfInBounds_ne (Ne.symm e)).trans (h.block k hk e)
theorem But.has {b n : Nat} {w w' : World} {c : Array Value} {T : TypeId} (h : But b w.heap.size w w') (h0 : Has w n c T) (hn : n ≠ b) : Has w' n c T := (h.block n h0.lt hn).trans h0
theorem Has.cells {w : World} {n : Nat} {c : Array Value} {T : TypeId} (h : Has w n c T) : ∀ o, w.cell? ⟨n, o, none⟩ = c[o]? := by
  intro o
  unfold Has at h
  simp [World.cell?, h]
theorem Has.frozen {w : World} {n : Nat} {c : Array Value} {T : TypeId} (h : Has w n c T) : ∀ o, w.frozen? ⟨n, o, none⟩ = false := by
  intro o
  unfold Has at h
  simp [World.frozen?, h]
/-- XRegion's beginning, for whatever is kept. -/
theorem region_ordS {P : Program} {Q : Exit → Act → World → Prop} {S : World → Prop} {id : Nat} {a : Act} {w : World} {l : List Oper} (hS0 : S w.drew) (ord : List (Nat × Nat)) (hm : P.follows .mixedOrders = true) (hB : regB l.toArray ord = true)
    (hQ : ∀ c a d v w, Q (.panic c) (a.put d v) w → Q (.panic c) a w) (h : S w.drew → wpG P l.toArray Q S ord a w.drew) : (Code.region id l.toArray true).wp P Q a w := by
  have h := h hS0
  simp only [regB, Bool.and_eq_true, beq_iff_eq] at hB
  obtain ⟨⟨⟨h1, h2⟩, h3⟩, h4⟩ := hB
  refine wp_region_any hm ?_
  rw [← h2]
  refine wpAny_of_G _ _ _ _ (wpAnyG_of_G (S := S) (late := lateOf ord) h1 hQ (fun j hj => ?_) ord _ a _ (fun j oj _ hl => (by rw [getD_replicate_false] at hl; cases hl)) (fun _ => hS0) (by rw [h2]; exact h4) h)
  obtain ⟨p, hp, hpj⟩ := List.any_eq_true.1 hj
  have := List.all_eq_true.1 h3 p hp
  simp only [Bool.and_eq_true, beq_iff_eq, decide_eq_true_eq] at hpj this
  omega
end Go.Proofs.Ytjcbphhemmdnjaa
