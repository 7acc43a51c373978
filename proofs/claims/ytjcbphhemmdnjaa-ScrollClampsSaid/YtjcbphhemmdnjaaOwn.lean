/- Own blocks kept in sight: a world that is opaque but for some blocks, which are written out. -/
import Derived.WalkKit
import Derived.Deep.QuietTactic
namespace Go.Proofs.Ytjcbphhemmdnjaa
open Go Go.RowKit
set_option linter.unusedSimpArgs false
set_option linter.unusedVariables false

/-- The world u with block b holding the cells cs. -/
def ov (u : World) (b : Nat) (cs : Array Value) (T : TypeId) : World := { u with heap := u.heap.setIfInBounds b (.cells cs T) }
def Has (w : World) (b : Nat) (cs : Array Value) (T : TypeId) : Prop := w.heap[b]? = some (.cells cs T)

theorem Has.lt {w : World} {b : Nat} {cs : Array Value} {T : TypeId} (h : Has w b cs T) : b < w.heap.size := by
  rcases Nat.lt_or_ge b w.heap.size with h' | h'
  · exact h'
  · unfold Has at h; rw [Array.getElem?_eq_none h'] at h; cases h
theorem ov_self {w : World} {b : Nat} {cs : Array Value} {T : TypeId} (h : Has w b cs T) : ov w b cs T = w := by
  have : w.heap.setIfInBounds b (.cells cs T) = w.heap := by
    apply Array.ext_getElem?
    intro i
    rw [Array.getElem?_setIfInBounds]
    split
    · rename_i e; subst e; rw [if_pos h.lt]; exact h.symm
    · rfl
  unfold ov; rw [this]
theorem has_new {w : World} {b : Nat} {cs : Array Value} {T : TypeId} (h : b = w.heap.size) : Has (w.alloc (.cells cs T)) b cs T := by
  subst h; unfold Has; show (w.heap.push _)[w.heap.size]? = _; simp
theorem has_alloc {w : World} {b : Nat} {cs : Array Value} {T : TypeId} {o : Obj} (h : Has w b cs T) : Has (w.alloc o) b cs T := (Below.heap_alloc w o b h.lt).trans h
theorem has_drew {w : World} {b : Nat} {cs : Array Value} {T : TypeId} (h : Has w b cs T) : Has w.drew b cs T := h
theorem has_drewN {w : World} {b n : Nat} {cs : Array Value} {T : TypeId} (h : Has w b cs T) : Has (w.drewN n) b cs T := h
theorem has_ov_same {u : World} {b : Nat} {cs : Array Value} {T : TypeId} (h : b < u.heap.size) : Has (ov u b cs T) b cs T := by
  unfold Has ov; simp [h]
theorem has_ov_other {u : World} {b b' : Nat} {cs cs' : Array Value} {T T' : TypeId} (hne : b ≠ b') (h : Has u b cs T) : Has (ov u b' cs' T') b cs T := by
  unfold Has ov; show (u.heap.setIfInBounds b' _)[b]? = _; rw [Array.getElem?_setIfInBounds_ne (Ne.symm hne)]; exact h
theorem has_below {W w1 : World} {b : Nat} {cs : Array Value} {T : TypeId} (hb : Below W.heap.size W w1) (h : Has W b cs T) : Has w1 b cs T := (hb.block b h.lt).trans h

theorem ov_cell_same {u : World} {b o : Nat} {cs : Array Value} {T : TypeId} (h : b < u.heap.size) : (ov u b cs T).cell? ⟨b, o, none⟩ = cs[o]? := by
  have hh : (ov u b cs T).heap[b]? = some (.cells cs T) := has_ov_same h
  simp [World.cell?, hh]
theorem addr_ne {b b' o : Nat} (h : ¬ ((⟨b', o, none⟩ : Addr) = ⟨b, o, none⟩)) : b' ≠ b := fun e => h (by rw [e])
theorem ov_cell_other {u : World} {b b' o : Nat} {cs : Array Value} {T : TypeId} (h : ¬ ((⟨b', o, none⟩ : Addr) = ⟨b, o, none⟩)) : (ov u b cs T).cell? ⟨b', o, none⟩ = u.cell? ⟨b', o, none⟩ :=
  World.cell?_of_block (w := u) (by unfold ov; exact Array.getElem?_setIfInBounds_ne (Ne.symm (addr_ne h)))
theorem ov_frozen_same {u : World} {b o : Nat} {cs : Array Value} {T : TypeId} (h : b < u.heap.size) : (ov u b cs T).frozen? ⟨b, o, none⟩ = false := by
  have hh : (ov u b cs T).heap[b]? = some (.cells cs T) := has_ov_same h
  simp [World.frozen?, hh]
theorem ov_frozen_other {u : World} {b b' o : Nat} {cs : Array Value} {T : TypeId} (h : ¬ ((⟨b', o, none⟩ : Addr) = ⟨b, o, none⟩)) : (ov u b cs T).frozen? ⟨b', o, none⟩ = u.frozen? ⟨b', o, none⟩ :=
  World.frozen?_of_block (w := u) (by unfold ov; exact Array.getElem?_setIfInBounds_ne (Ne.symm (addr_ne h)))
@[simp] theorem ov_size {u : World} {b : Nat} {cs : Array Value} {T : TypeId} : (ov u b cs T).heap.size = u.heap.size := by simp [ov]
theorem ov_setCell_same {u : World} {b o : Nat} {cs : Array Value} {T : TypeId} {v : Value} : (ov u b cs T).setCell ⟨b, o, none⟩ v = ov u b (cs.setIfInBounds o v) T := by
  refine congrArg (fun h => ({ u with heap := h } : World)) (Array.ext_getElem? fun i => ?_)
  show ((u.heap.setIfInBounds b _).modify b _)[i]? = (u.heap.setIfInBounds b _)[i]?
  rw [Array.getElem?_modify]
  simp only [Array.getElem?_setIfInBounds]
  by_cases e : b = i
  · subst e
    by_cases hb : b < u.heap.size <;> simp [hb]
  · simp [e]
theorem ov_setCell_other {u : World} {b b' o : Nat} {cs : Array Value} {T : TypeId} {v : Value} (ha : ¬ ((⟨b', o, none⟩ : Addr) = ⟨b, o, none⟩)) : (ov u b cs T).setCell ⟨b', o, none⟩ v = ov (u.setCell ⟨b', o, none⟩ v) b cs T := by
  have h := addr_ne ha
  refine congrArg (fun h => ({ u with heap := h } : World)) (Array.ext_getElem? fun i => ?_)
  show ((u.heap.setIfInBounds b _).modify b' _)[i]? = ((u.heap.modify b' _).setIfInBounds b _)[i]?
  simp only [Array.getElem?_modify, Array.getElem?_setIfInBounds, Array.size_modify]
  by_cases e : b = i
  · subst e
    by_cases hb : b < u.heap.size <;> simp [hb, h]
  · by_cases e' : b' = i
    · simp [e, e']
    · simp [e, e']
/-- Block b is there. -/
def Old (w : World) (b : Nat) : Prop := b < w.heap.size
theorem old_alloc {w : World} {ob : Obj} {b : Nat} : Old (w.alloc ob) b = (Old w b ∨ b = w.heap.size) := by
  unfold Old; rw [World.size_alloc]; exact propext ⟨fun h => by omega, fun h => by omega⟩
theorem old_ov {u : World} {b b' : Nat} {cs : Array Value} {T : TypeId} : Old (ov u b' cs T) b = Old u b := by unfold Old; rw [ov_size]
theorem old_drew {w : World} {b : Nat} : Old w.drew b = Old w b := rfl
theorem old_drewN {w : World} {b n : Nat} : Old (w.drewN n) b = Old w b := rfl
theorem old_setCell {w : World} {b : Nat} {a : Addr} {v : Value} : Old (w.setCell a v) b = Old w b := by unfold Old; rw [World.size_setCell]
theorem cell_alloc_old {w : World} {ob : Obj} {n i : Nat} (h : Old w n) : (w.alloc ob).cell? ⟨n, i, none⟩ = w.cell? ⟨n, i, none⟩ := World.cell?_alloc_old _ _ _ (Nat.ne_of_lt h)
theorem frozen_alloc_old {w : World} {ob : Obj} {n i : Nat} (h : Old w n) : (w.alloc ob).frozen? ⟨n, i, none⟩ = w.frozen? ⟨n, i, none⟩ := World.frozen?_alloc_old _ _ _ (Nat.ne_of_lt h)
theorem setCell_alloc_old {w : World} {ob : Obj} {n i : Nat} {v : Value} (h : Old w n) : (w.alloc ob).setCell ⟨n, i, none⟩ v = (w.setCell ⟨n, i, none⟩ v).alloc ob := World.setCell_alloc_past _ _ _ _ h
theorem below_ov {B : Nat} {w u : World} (h : Below B w u) {b : Nat} (hb : B ≤ b) (cs : Array Value) (T : TypeId) : Below B w (Go.Proofs.Ytjcbphhemmdnjaa.ov u b cs T) :=
  ⟨h.os, h.tape, h.output, by rw [ov_size]; exact h.size, fun k hk => by
    rw [← h.block k hk]; exact Array.getElem?_setIfInBounds_ne (by omega)⟩
/-- Behind a call that only makes memory: 0 blocks of the caller's own. -/
theorem after0 {w W w1 : World} (hb : Below W.heap.size W w1) (hW : Below w.heap.size w W) : ∃ u, w1 = u ∧ Below w.heap.size w u ∧ W.heap.size ≤ u.heap.size := by
  have e : w1 = w1 := rfl
  exact ⟨w1, e.symm, hW.trans (hb.mono hW.size), hb.size⟩
/-- Behind a call that only makes memory: 1 blocks of the caller's own. -/
theorem after1 {w W w1 : World} {b0 : Nat} {cs0 : Array Value} {T0 : TypeId} (hb : Below W.heap.size W w1) (hW : Below w.heap.size w W) (h0 : Has W b0 cs0 T0) : ∃ u, w1 = (ov u b0 cs0 T0) ∧ Below w.heap.size w u ∧ W.heap.size ≤ u.heap.size ∧ b0 < u.heap.size ∧ Old u b0 := by
  have e : (ov w1 b0 cs0 T0) = w1 := by rw [ov_self (has_below hb h0)]
  exact ⟨w1, e.symm, hW.trans (hb.mono hW.size), hb.size, (has_below hb h0).lt, (has_below hb h0).lt⟩
/-- Behind a call that only makes memory: 2 blocks of the caller's own. -/
theorem after2 {w W w1 : World} {b0 : Nat} {cs0 : Array Value} {T0 : TypeId} {b1 : Nat} {cs1 : Array Value} {T1 : TypeId} (hb : Below W.heap.size W w1) (hW : Below w.heap.size w W) (h0 : Has W b0 cs0 T0) (h1 : Has W b1 cs1 T1) : ∃ u, w1 = (ov (ov u b0 cs0 T0) b1 cs1 T1) ∧ Below w.heap.size w u ∧ W.heap.size ≤ u.heap.size ∧ b0 < u.heap.size ∧ Old u b0 ∧ b1 < u.heap.size ∧ Old u b1 := by
  have e : (ov (ov w1 b0 cs0 T0) b1 cs1 T1) = w1 := by rw [ov_self (has_below hb h0), ov_self (has_below hb h1)]
  exact ⟨w1, e.symm, hW.trans (hb.mono hW.size), hb.size, (has_below hb h0).lt, (has_below hb h0).lt, (has_below hb h1).lt, (has_below hb h1).lt⟩
/-- Behind a call that only makes memory: 3 blocks of the caller's own. -/
theorem after3 {w W w1 : World} {b0 : Nat} {cs0 : Array Value} {T0 : TypeId} {b1 : Nat} {cs1 : Array Value} {T1 : TypeId} {b2 : Nat} {cs2 : Array Value} {T2 : TypeId} (hb : Below W.heap.size W w1) (hW : Below w.heap.size w W) (h0 : Has W b0 cs0 T0) (h1 : Has W b1 cs1 T1) (h2 : Has W b2 cs2 T2) : ∃ u, w1 = (ov (ov (ov u b0 cs0 T0) b1 cs1 T1) b2 cs2 T2) ∧ Below w.heap.size w u ∧ W.heap.size ≤ u.heap.size ∧ b0 < u.heap.size ∧ Old u b0 ∧ b1 < u.heap.size ∧ Old u b1 ∧ b2 < u.heap.size ∧ Old u b2 := by
  have e : (ov (ov (ov w1 b0 cs0 T0) b1 cs1 T1) b2 cs2 T2) = w1 := by rw [ov_self (has_below hb h0), ov_self (has_below hb h1), ov_self (has_below hb h2)]
  exact ⟨w1, e.symm, hW.trans (hb.mono hW.size), hb.size, (has_below hb h0).lt, (has_below hb h0).lt, (has_below hb h1).lt, (has_below hb h1).lt, (has_below hb h2).lt, (has_below hb h2).lt⟩
/-- Behind a call that only makes memory: 4 blocks of the caller's own. -/
theorem after4 {w W w1 : World} {b0 : Nat} {cs0 : Array Value} {T0 : TypeId} {b1 : Nat} {cs1 : Array Value} {T1 : TypeId} {b2 : Nat} {cs2 : Array Value} {T2 : TypeId} {b3 : Nat} {cs3 : Array Value} {T3 : TypeId} (hb : Below W.heap.size W w1) (hW : Below w.heap.size w W) (h0 : Has W b0 cs0 T0) (h1 : Has W b1 cs1 T1) (h2 : Has W b2 cs2 T2) (h3 : Has W b3 cs3 T3) : ∃ u, w1 = (ov (ov (ov (ov u b0 cs0 T0) b1 cs1 T1) b2 cs2 T2) b3 cs3 T3) ∧ Below w.heap.size w u ∧ W.heap.size ≤ u.heap.size ∧ b0 < u.heap.size ∧ Old u b0 ∧ b1 < u.heap.size ∧ Old u b1 ∧ b2 < u.heap.size ∧ Old u b2 ∧ b3 < u.heap.size ∧ Old u b3 := by
  have e : (ov (ov (ov (ov w1 b0 cs0 T0) b1 cs1 T1) b2 cs2 T2) b3 cs3 T3) = w1 := by rw [ov_self (has_below hb h0), ov_self (has_below hb h1), ov_self (has_below hb h2), ov_self (has_below hb h3)]
  exact ⟨w1, e.symm, hW.trans (hb.mono hW.size), hb.size, (has_below hb h0).lt, (has_below hb h0).lt, (has_below hb h1).lt, (has_below hb h1).lt, (has_below hb h2).lt, (has_below hb h2).lt, (has_below hb h3).lt, (has_below hb h3).lt⟩
/-- Behind a call that only makes memory: 5 blocks of the caller's own. -/
theorem after5 {w W w1 : World} {b0 : Nat} {cs0 : Array Value} {T0 : TypeId} {b1 : Nat} {cs1 : Array Value} {T1 : TypeId} {b2 : Nat} {cs2 : Array Value} {T2 : TypeId} {b3 : Nat} {cs3 : Array Value} {T3 : TypeId} {b4 : Nat} {cs4 : Array Value} {T4 : TypeId} (hb : Below W.heap.size W w1) (hW : Below w.heap.size w W) (h0 : Has W b0 cs0 T0) (h1 : Has W b1 cs1 T1) (h2 : Has W b2 cs2 T2) (h3 : Has W b3 cs3 T3) (h4 : Has W b4 cs4 T4) : ∃ u, w1 = (ov (ov (ov (ov (ov u b0 cs0 T0) b1 cs1 T1) b2 cs2 T2) b3 cs3 T3) b4 cs4 T4) ∧ Below w.heap.size w u ∧ W.heap.size ≤ u.heap.size ∧ b0 < u.heap.size ∧ Old u b0 ∧ b1 < u.heap.size ∧ Old u b1 ∧ b2 < u.heap.size ∧ Old u b2 ∧ b3 < u.heap.size ∧ Old u b3 ∧ b4 < u.heap.size ∧ Old u b4 := by
  have e : (ov (ov (ov (ov (ov w1 b0 cs0 T0) b1 cs1 T1) b2 cs2 T2) b3 cs3 T3) b4 cs4 T4) = w1 := by rw [ov_self (has_below hb h0), ov_self (has_below hb h1), ov_self (has_below hb h2), ov_self (has_below hb h3), ov_self (has_below hb h4)]
  exact ⟨w1, e.symm, hW.trans (hb.mono hW.size), hb.size, (has_below hb h0).lt, (has_below hb h0).lt, (has_below hb h1).lt, (has_below hb h1).lt, (has_below hb h2).lt, (has_below hb h2).lt, (has_below hb h3).lt, (has_below hb h3).lt, (has_below hb h4).lt, (has_below hb h4).lt⟩
/-- Behind a call that only makes memory: 6 blocks of the caller's own. -/
theorem after6 {w W w1 : World} {b0 : Nat} {cs0 : Array Value} {T0 : TypeId} {b1 : Nat} {cs1 : Array Value} {T1 : TypeId} {b2 : Nat} {cs2 : Array Value} {T2 : TypeId} {b3 : Nat} {cs3 : Array Value} {T3 : TypeId} {b4 : Nat} {cs4 : Array Value} {T4 : TypeId} {b5 : Nat} {cs5 : Array Value} {T5 : TypeId} (hb : Below W.heap.size W w1) (hW : Below w.heap.size w W) (h0 : Has W b0 cs0 T0) (h1 : Has W b1 cs1 T1) (h2 : Has W b2 cs2 T2) (h3 : Has W b3 cs3 T3) (h4 : Has W b4 cs4 T4) (h5 : Has W b5 cs5 T5) : ∃ u, w1 = (ov (ov (ov (ov (ov (ov u b0 cs0 T0) b1 cs1 T1) b2 cs2 T2) b3 cs3 T3) b4 cs4 T4) b5 cs5 T5) ∧ Below w.heap.size w u ∧ W.heap.size ≤ u.heap.size ∧ b0 < u.heap.size ∧ Old u b0 ∧ b1 < u.heap.size ∧ Old u b1 ∧ b2 < u.heap.size ∧ Old u b2 ∧ b3 < u.heap.size ∧ Old u b3 ∧ b4 < u.heap.size ∧ Old u b4 ∧ b5 < u.heap.size ∧ Old u b5 := by
  have e : (ov (ov (ov (ov (ov (ov w1 b0 cs0 T0) b1 cs1 T1) b2 cs2 T2) b3 cs3 T3) b4 cs4 T4) b5 cs5 T5) = w1 := by rw [ov_self (has_below hb h0), ov_self (has_below hb h1), ov_self (has_below hb h2), ov_self (has_below hb h3), ov_self (has_below hb h4), ov_self (has_below hb h5)]
  exact ⟨w1, e.symm, hW.trans (hb.mono hW.size), hb.size, (has_below hb h0).lt, (has_below hb h0).lt, (has_below hb h1).lt, (has_below hb h1).lt, (has_below hb h2).lt, (has_below hb h2).lt, (has_below hb h3).lt, (has_below hb h3).lt, (has_below hb h4).lt, (has_below hb h4).lt, (has_below hb h5).lt, (has_below hb h5).lt⟩
/-- Behind a call that only makes memory: 7 blocks of the caller's own. -/
theorem after7 {w W w1 : World} {b0 : Nat} {cs0 : Array Value} {T0 : TypeId} {b1 : Nat} {cs1 : Array Value} {T1 : TypeId} {b2 : Nat} {cs2 : Array Value} {T2 : TypeId} {b3 : Nat} {cs3 : Array Value} {T3 : TypeId} {b4 : Nat} {cs4 : Array Value} {T4 : TypeId} {b5 : Nat} {cs5 : Array Value} {T5 : TypeId} {b6 : Nat} {cs6 : Array Value} {T6 : TypeId} (hb : Below W.heap.size W w1) (hW : Below w.heap.size w W) (h0 : Has W b0 cs0 T0) (h1 : Has W b1 cs1 T1) (h2 : Has W b2 cs2 T2) (h3 : Has W b3 cs3 T3) (h4 : Has W b4 cs4 T4) (h5 : Has W b5 cs5 T5) (h6 : Has W b6 cs6 T6) : ∃ u, w1 = (ov (ov (ov (ov (ov (ov (ov u b0 cs0 T0) b1 cs1 T1) b2 cs2 T2) b3 cs3 T3) b4 cs4 T4) b5 cs5 T5) b6 cs6 T6) ∧ Below w.heap.size w u ∧ W.heap.size ≤ u.heap.size ∧ b0 < u.heap.size ∧ Old u b0 ∧ b1 < u.heap.size ∧ Old u b1 ∧ b2 < u.heap.size ∧ Old u b2 ∧ b3 < u.heap.size ∧ Old u b3 ∧ b4 < u.heap.size ∧ Old u b4 ∧ b5 < u.heap.size ∧ Old u b5 ∧ b6 < u.heap.size ∧ Old u b6 := by
  have e : (ov (ov (ov (ov (ov (ov (ov w1 b0 cs0 T0) b1 cs1 T1) b2 cs2 T2) b3 cs3 T3) b4 cs4 T4) b5 cs5 T5) b6 cs6 T6) = w1 := by rw [ov_self (has_below hb h0), ov_self (has_below hb h1), ov_self (has_below hb h2), ov_self (has_below hb h3), ov_self (has_below hb h4), ov_self (has_below hb h5), ov_self (has_below hb h6)]
  exact ⟨w1, e.symm, hW.trans (hb.mono hW.size), hb.size, (has_below hb h0).lt, (has_below hb h0).lt, (has_below hb h1).lt, (has_below hb h1).lt, (has_below hb h2).lt, (has_below hb h2).lt, (has_below hb h3).lt, (has_below hb h3).lt, (has_below hb h4).lt, (has_below hb h4).lt, (has_below hb h5).lt, (has_below hb h5).lt, (has_below hb h6).lt, (has_below hb h6).lt⟩
/-- Behind a call that only makes memory: 8 blocks of the caller's own. -/
theorem after8 {w W w1 : World} {b0 : Nat} {cs0 : Array Value} {T0 : TypeId} {b1 : Nat} {cs1 : Array Value} {T1 : TypeId} {b2 : Nat} {cs2 : Array Value} {T2 : TypeId} {b3 : Nat} {cs3 : Array Value} {T3 : TypeId} {b4 : Nat} {cs4 : Array Value} {T4 : TypeId} {b5 : Nat} {cs5 : Array Value} {T5 : TypeId} {b6 : Nat} {cs6 : Array Value} {T6 : TypeId} {b7 : Nat} {cs7 : Array Value} {T7 : TypeId} (hb : Below W.heap.size W w1) (hW : Below w.heap.size w W) (h0 : Has W b0 cs0 T0) (h1 : Has W b1 cs1 T1) (h2 : Has W b2 cs2 T2) (h3 : Has W b3 cs3 T3) (h4 : Has W b4 cs4 T4) (h5 : Has W b5 cs5 T5) (h6 : Has W b6 cs6 T6) (h7 : Has W b7 cs7 T7) : ∃ u, w1 = (ov (ov (ov (ov (ov (ov (ov (ov u b0 cs0 T0) b1 cs1 T1) b2 cs2 T2) b3 cs3 T3) b4 cs4 T4) b5 cs5 T5) b6 cs6 T6) b7 cs7 T7) ∧ Below w.heap.size w u ∧ W.heap.size ≤ u.heap.size ∧ b0 < u.heap.size ∧ Old u b0 ∧ b1 < u.heap.size ∧ Old u b1 ∧ b2 < u.heap.size ∧ Old u b2 ∧ b3 < u.heap.size ∧ Old u b3 ∧ b4 < u.heap.size ∧ Old u b4 ∧ b5 < u.heap.size ∧ Old u b5 ∧ b6 < u.heap.size ∧ Old u b6 ∧ b7 < u.heap.size ∧ Old u b7 := by
  have e : (ov (ov (ov (ov (ov (ov (ov (ov w1 b0 cs0 T0) b1 cs1 T1) b2 cs2 T2) b3 cs3 T3) b4 cs4 T4) b5 cs5 T5) b6 cs6 T6) b7 cs7 T7) = w1 := by rw [ov_self (has_below hb h0), ov_self (has_below hb h1), ov_self (has_below hb h2), ov_self (has_below hb h3), ov_self (has_below hb h4), ov_self (has_below hb h5), ov_self (has_below hb h6), ov_self (has_below hb h7)]
  exact ⟨w1, e.symm, hW.trans (hb.mono hW.size), hb.size, (has_below hb h0).lt, (has_below hb h0).lt, (has_below hb h1).lt, (has_below hb h1).lt, (has_below hb h2).lt, (has_below hb h2).lt, (has_below hb h3).lt, (has_below hb h3).lt, (has_below hb h4).lt, (has_below hb h4).lt, (has_below hb h5).lt, (has_below hb h5).lt, (has_below hb h6).lt, (has_below hb h6).lt, (has_below hb h7).lt, (has_below hb h7).lt⟩
/-- Behind a call that only makes memory: 9 blocks of the caller's own. -/
theorem after9 {w W w1 : World} {b0 : Nat} {cs0 : Array Value} {T0 : TypeId} {b1 : Nat} {cs1 : Array Value} {T1 : TypeId} {b2 : Nat} {cs2 : Array Value} {T2 : TypeId} {b3 : Nat} {cs3 : Array Value} {T3 : TypeId} {b4 : Nat} {cs4 : Array Value} {T4 : TypeId} {b5 : Nat} {cs5 : Array Value} {T5 : TypeId} {b6 : Nat} {cs6 : Array Value} {T6 : TypeId} {b7 : Nat} {cs7 : Array Value} {T7 : TypeId} {b8 : Nat} {cs8 : Array Value} {T8 : TypeId} (hb : Below W.heap.size W w1) (hW : Below w.heap.size w W) (h0 : Has W b0 cs0 T0) (h1 : Has W b1 cs1 T1) (h2 : Has W b2 cs2 T2) (h3 : Has W b3 cs3 T3) (h4 : Has W b4 cs4 T4) (h5 : Has W b5 cs5 T5) (h6 : Has W b6 cs6 T6) (h7 : Has W b7 cs7 T7) (h8 : Has W b8 cs8 T8) : ∃ u, w1 = (ov (ov (ov (ov (ov (ov (ov (ov (ov u b0 cs0 T0) b1 cs1 T1) b2 cs2 T2) b3 cs3 T3) b4 cs4 T4) b5 cs5 T5) b6 cs6 T6) b7 cs7 T7) b8 cs8 T8) ∧ Below w.heap.size w u ∧ W.heap.size ≤ u.heap.size ∧ b0 < u.heap.size ∧ Old u b0 ∧ b1 < u.heap.size ∧ Old u b1 ∧ b2 < u.heap.size ∧ Old u b2 ∧ b3 < u.heap.size ∧ Old u b3 ∧ b4 < u.heap.size ∧ Old u b4 ∧ b5 < u.heap.size ∧ Old u b5 ∧ b6 < u.heap.size ∧ Old u b6 ∧ b7 < u.heap.size ∧ Old u b7 ∧ b8 < u.heap.size ∧ Old u b8 := by
  have e : (ov (ov (ov (ov (ov (ov (ov (ov (ov w1 b0 cs0 T0) b1 cs1 T1) b2 cs2 T2) b3 cs3 T3) b4 cs4 T4) b5 cs5 T5) b6 cs6 T6) b7 cs7 T7) b8 cs8 T8) = w1 := by rw [ov_self (has_below hb h0), ov_self (has_below hb h1), ov_self (has_below hb h2), ov_self (has_below hb h3), ov_self (has_below hb h4), ov_self (has_below hb h5), ov_self (has_below hb h6), ov_self (has_below hb h7), ov_self (has_below hb h8)]
  exact ⟨w1, e.symm, hW.trans (hb.mono hW.size), hb.size, (has_below hb h0).lt, (has_below hb h0).lt, (has_below hb h1).lt, (has_below hb h1).lt, (has_below hb h2).lt, (has_below hb h2).lt, (has_below hb h3).lt, (has_below hb h3).lt, (has_below hb h4).lt, (has_below hb h4).lt, (has_below hb h5).lt, (has_below hb h5).lt, (has_below hb h6).lt, (has_below hb h6).lt, (has_below hb h7).lt, (has_below hb h7).lt, (has_below hb h8).lt, (has_below hb h8).lt⟩
/-- Behind a call that only makes memory: 10 blocks of the caller's own. -/
theorem after10 {w W w1 : World} {b0 : Nat} {cs0 : Array Value} {T0 : TypeId} {b1 : Nat} {cs1 : Array Value} {T1 : TypeId} {b2 : Nat} {cs2 : Array Value} {T2 : TypeId} {b3 : Nat} {cs3 : Array Value} {T3 : TypeId} {b4 : Nat} {cs4 : Array Value} {T4 : TypeId} {b5 : Nat} {cs5 : Array Value} {T5 : TypeId} {b6 : Nat} {cs6 : Array Value} {T6 : TypeId} {b7 : Nat} {cs7 : Array Value} {T7 : TypeId} {b8 : Nat} {cs8 : Array Value} {T8 : TypeId} {b9 : Nat} {cs9 : Array Value} {T9 : TypeId} (hb : Below W.heap.size W w1) (hW : Below w.heap.size w W) (h0 : Has W b0 cs0 T0) (h1 : Has W b1 cs1 T1) (h2 : Has W b2 cs2 T2) (h3 : Has W b3 cs3 T3) (h4 : Has W b4 cs4 T4) (h5 : Has W b5 cs5 T5) (h6 : Has W b6 cs6 T6) (h7 : Has W b7 cs7 T7) (h8 : Has W b8 cs8 T8) (h9 : Has W b9 cs9 T9) : ∃ u, w1 = (ov (ov (ov (ov (ov (ov (ov (ov (ov (ov u b0 cs0 T0) b1 cs1 T1) b2 cs2 T2) b3 cs3 T3) b4 cs4 T4) b5 cs5 T5) b6 cs6 T6) b7 cs7 T7) b8 cs8 T8) b9 cs9 T9) ∧ Below w.heap.size w u ∧ W.heap.size ≤ u.heap.size ∧ b0 < u.heap.size ∧ Old u b0 ∧ b1 < u.heap.size ∧ Old u b1 ∧ b2 < u.heap.size ∧ Old u b2 ∧ b3 < u.heap.size ∧ Old u b3 ∧ b4 < u.heap.size ∧ Old u b4 ∧ b5 < u.heap.size ∧ Old u b5 ∧ b6 < u.heap.size ∧ Old u b6 ∧ b7 < u.heap.size ∧ Old u b7 ∧ b8 < u.heap.size ∧ Old u b8 ∧ b9 < u.heap.size ∧ Old u b9 := by
  have e : (ov (ov (ov (ov (ov (ov (ov (ov (ov (ov w1 b0 cs0 T0) b1 cs1 T1) b2 cs2 T2) b3 cs3 T3) b4 cs4 T4) b5 cs5 T5) b6 cs6 T6) b7 cs7 T7) b8 cs8 T8) b9 cs9 T9) = w1 := by rw [ov_self (has_below hb h0), ov_self (has_below hb h1), ov_self (has_below hb h2), ov_self (has_below hb h3), ov_self (has_below hb h4), ov_self (has_below hb h5), ov_self (has_below hb h6), ov_self (has_below hb h7), ov_self (has_below hb h8), ov_self (has_below hb h9)]
  exact ⟨w1, e.symm, hW.trans (hb.mono hW.size), hb.size, (has_below hb h0).lt, (has_below hb h0).lt, (has_below hb h1).lt, (has_below hb h1).lt, (has_below hb h2).lt, (has_below hb h2).lt, (has_below hb h3).lt, (has_below hb h3).lt, (has_below hb h4).lt, (has_below hb h4).lt, (has_below hb h5).lt, (has_below hb h5).lt, (has_below hb h6).lt, (has_below hb h6).lt, (has_below hb h7).lt, (has_below hb h7).lt, (has_below hb h8).lt, (has_below hb h8).lt, (has_below hb h9).lt, (has_below hb h9).lt⟩
end Go.Proofs.Ytjcbphhemmdnjaa
