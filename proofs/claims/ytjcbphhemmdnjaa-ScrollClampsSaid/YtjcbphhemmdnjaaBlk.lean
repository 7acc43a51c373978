/- A struct that fills a block of the caller's own, read and written whole: no cell by cell. -/
import Derived.Test.YtjcbphhemmdnjaaBase
import Derived.Deep.MidRow
namespace Go.Proofs.Ytjcbphhemmdnjaa
open Go Go.RowKit
set_option linter.unusedSimpArgs false
set_option linter.unusedVariables false

/-- The cells of a block. -/
def blkCells (w : World) (b : Nat) : Array Value :=
  match w.heap[b]? with
  | some (.cells cs _ fr) => if fr = (0, 0) then cs else #[]
  | _ => #[]
/-- The block with other cells. -/
def putBlk (w : World) (b : Nat) (c : Array Value) : World :=
  { w with heap := w.heap.modify b fun | .cells _ T fr => .cells c T fr | o => o }
def allOne : List Value → Bool
  | [] => true
  | v :: r => v.oneCell' && allOne r

theorem blk_some {w : World} {b n : Nat} (h : (blkCells w b).size = n) (hn : 0 < n) : ∃ T, w.heap[b]? = some (.cells (blkCells w b) T (0, 0)) := by
  unfold blkCells at h ⊢
  split at h
  · rename_i cs T fr hh
    split at h
    · rename_i hf; subst hf; rw [hh]; exact ⟨T, by simp⟩
    · simp at h; omega
  · simp at h; omega
theorem blk_cell {w : World} {b : Nat} {T : TypeId} {cs : Array Value} (h : w.heap[b]? = some (.cells cs T (0, 0))) (j : Nat) : w.cell? ⟨b, j, none⟩ = cs[j]? := by simp [World.cell?, h]
theorem blk_frozen {w : World} {b : Nat} {T : TypeId} {cs : Array Value} (h : w.heap[b]? = some (.cells cs T (0, 0))) (j : Nat) : w.frozen? ⟨b, j, none⟩ = false := by simp [World.frozen?, h]

theorem setCells_blk (T : TypeId) (b : Nat) : ∀ (vs pre rest : List Value) (w : World), rest.length = vs.length → w.heap[b]? = some (.cells (pre ++ rest).toArray T (0, 0)) → w.setCells b pre.length vs = putBlk w b (pre ++ vs).toArray
  | [], pre, rest, w, hl, h => by
    obtain rfl : rest = [] := List.eq_nil_of_length_eq_zero hl
    show w = _
    refine (congrArg (fun h => ({ w with heap := h } : World)) (Array.ext_getElem? fun i => ?_) : _)
    rw [Array.getElem?_modify]
    split
    · rename_i e; subst e; rw [h]; rfl
    · rfl
  | v :: vs, pre, r :: rest, w, hl, h => by
    show (w.setCell ⟨b, pre.length, none⟩ v).setCells b (pre.length + 1) vs = _
    have h' : (w.setCell ⟨b, pre.length, none⟩ v).heap[b]? = some (.cells ((pre ++ [v]) ++ rest).toArray T (0, 0)) := by
      simp only [World.setCell, Array.getElem?_modify, if_true, h, Option.map_some]
      simp
    have := setCells_blk T b vs (pre ++ [v]) rest (w.setCell ⟨b, pre.length, none⟩ v) (by simpa using hl) h'
    rw [List.length_append, List.length_singleton] at this
    rw [this]
    refine (congrArg (fun h => ({ w with heap := h } : World)) (Array.ext_getElem? fun i => ?_) : _)
    simp only [World.setCell, Array.getElem?_modify]
    split
    · rename_i e; subst e; rw [h]; simp
    · rfl
  | v :: vs, pre, [], w, hl, h => by simp at hl

section
variable {P : Program} {ty : TypeId} {n : Nat} {d : TypeDesc}
theorem load_blk (hu : P.underlying ty = some d) (hd : d.isRow = true) (hi : (P.info? ty).map (·.size) = some n) (hn : 0 < n) (w : World) (b : Nat) (h : (blkCells w b).size = n) :
    (Instr.loadAt ty (.pointer (some ⟨b, 0, none⟩))).run P w = .ok (.agg (blkCells w b)) w := by
  obtain ⟨T, hT⟩ := blk_some h hn
  have := run_loadAt_mid w b 0 ty (blkCells w b).toList d (fun j v hv => by rw [Nat.zero_add, blk_cell hT]; simpa using hv) hu hd (by rw [hi]; simp [h])
  simpa using this
theorem loadVar_blk (hu : P.underlying ty = some d) (hd : d.isRow = true) (hi : (P.info? ty).map (·.size) = some n) (hn : 0 < n) (w : World) (b : Nat) (h : (blkCells w b).size = n) :
    (loadVar ty ⟨b, 0, none⟩).run P w = .ok (.agg (blkCells w b)) w := by
  obtain ⟨T, hT⟩ := blk_some h hn
  have := run_loadVar_mid w b 0 ty (blkCells w b).toList d (fun j v hv => by rw [Nat.zero_add, blk_cell hT]; simpa using hv) hu hd (by rw [hi]; simp [h])
  simpa using this
theorem allOne_spec : ∀ (l : List Value), allOne l = true → l.toArray.all (·.oneCell') = true
  | [], _ => by simp
  | v :: r, h => by
    simp only [allOne, Bool.and_eq_true] at h
    have := allOne_spec r h.2
    simp at this ⊢
    exact ⟨h.1, this⟩
theorem storeVar_blk (hi : (P.info? ty).map (·.size) = some n) (hn : 0 < n) (w : World) (b : Nat) (l : List Value) (h : (blkCells w b).size = n) (hl : l.length = n) (h1 : allOne l = true) :
    (storeVar ty ⟨b, 0, none⟩ (.agg l.toArray)).run P w = .ok () (putBlk w b l.toArray) := by
  obtain ⟨T, hT⟩ := blk_some h hn
  have := run_storeVar_mid (P := P) w b 0 ty l.toArray (fun j hj => by rw [Nat.zero_add, blk_cell hT, blk_frozen hT]; simp at hj; simp; omega) (by rw [hi]; simp [hl]) (allOne_spec l h1)
  rw [this]
  have e := setCells_blk T b l [] (blkCells w b).toList w (by simp [h, hl]) (by simpa using hT)
  simp only [List.length_nil, List.nil_append] at e
  simp [e]
theorem store_blk (hi : (P.info? ty).map (·.size) = some n) (hn : 0 < n) (w : World) (b : Nat) (l : List Value) (h : (blkCells w b).size = n) (hl : l.length = n) (h1 : allOne l = true) :
    (Instr.storeAt ty (.pointer (some ⟨b, 0, none⟩)) (.agg l.toArray)).run P w = .ok () (putBlk w b l.toArray) := by
  simp only [Instr.storeAt, Instr.sureAddr, Sem.run_bind, Sem.run_pure, Result.andThen_ok, storeVar_blk hi hn w b l h hl h1]
end

/-! The operation, held back until its operands are reckoned. -/
def runLoad (P : Program) (ty : TypeId) (v : Value) (w : World) : Result Next := (do pure (.value (← Instr.loadAt ty v)) : Sem Next).run P w
def runStore (P : Program) (ty : TypeId) (v x : Value) (w : World) : Result Next := (do Instr.storeAt ty v x; pure .skip : Sem Next).run P w
theorem exec_load {P : Program} {ρ : Operand → Value} {d : Option Tmp} {ty t : TypeId} {x : Operand} {po : String} {af : Array Edge} {g : Option (Nat × Bool)} (w : World) : (execOp ρ ⟨d, .load ty x, t, po, af, g⟩).run P w = runLoad P ty (ρ x) w := Eq.trans rfl rfl
theorem exec_store {P : Program} {ρ : Operand → Value} {d : Option Tmp} {ty t : TypeId} {x y : Operand} {po : String} {af : Array Edge} {g : Option (Nat × Bool)} (w : World) : (execOp ρ ⟨d, .store ty x y, t, po, af, g⟩).run P w = runStore P ty (ρ x) (ρ y) w := Eq.trans rfl rfl
section
variable {P : Program} {ty : TypeId} {n : Nat} {d : TypeDesc}
theorem runLoad_blk (hu : P.underlying ty = some d) (hd : d.isRow = true) (hi : (P.info? ty).map (·.size) = some n) (hn : 0 < n) (w : World) (b : Nat) (h : (blkCells w b).size = n) :
    runLoad P ty (.pointer (some ⟨b, 0, none⟩)) w = .ok (.value (.agg (blkCells w b))) w := by
  unfold runLoad
  rw [Sem.run_bind, load_blk hu hd hi hn w b h]
  rfl
theorem runStore_blk (hi : (P.info? ty).map (·.size) = some n) (hn : 0 < n) (w : World) (b : Nat) (l : List Value) (h : (blkCells w b).size = n) (hl : l.length = n) (h1 : allOne l = true) :
    runStore P ty (.pointer (some ⟨b, 0, none⟩)) (.agg l.toArray) w = .ok .skip (putBlk w b l.toArray) := by
  unfold runStore
  rw [Sem.run_bind, store_blk hi hn w b l h hl h1]
  rfl
end

theorem blkCells_ov_same {u : World} {b : Nat} {cs : Array Value} {T : TypeId} (h : b < u.heap.size) : blkCells (ov u b cs T) b = cs := by
  have hh : (ov u b cs T).heap[b]? = some (.cells cs T) := has_ov_same h
  simp [blkCells, hh]
theorem blkCells_of {w w' : World} {b : Nat} (h : w'.heap[b]? = w.heap[b]?) : blkCells w' b = blkCells w b := by unfold blkCells; rw [h]
theorem blkCells_ov_other {u : World} {b b' : Nat} {cs : Array Value} {T : TypeId} (h : ¬ ((⟨b', 0, none⟩ : Addr) = ⟨b, 0, none⟩)) : blkCells (ov u b cs T) b' = blkCells u b' :=
  blkCells_of (by unfold ov; exact Array.getElem?_setIfInBounds_ne (Ne.symm (addr_ne h)))
theorem blkCells_new {w : World} {b : Nat} {cs : Array Value} {T : TypeId} (h : b = w.heap.size) : blkCells (w.alloc (.cells cs T)) b = cs := by
  have hh : (w.alloc (.cells cs T)).heap[b]? = some (.cells cs T) := has_new h
  simp [blkCells, hh]
theorem blkCells_old {w : World} {ob : Obj} {b : Nat} (h : Old w b) : blkCells (w.alloc ob) b = blkCells w b := blkCells_of (Below.heap_alloc w ob b h)
theorem blkCells_drew {w : World} {b : Nat} : blkCells w.drew b = blkCells w b := blkCells_of rfl
theorem blkCells_drewN {w : World} {b n : Nat} : blkCells (w.drewN n) b = blkCells w b := blkCells_of rfl
theorem blkCells_has {w : World} {b : Nat} {cs : Array Value} {T : TypeId} (h : Has w b cs T) : blkCells w b = cs := by
  unfold Has at h
  simp [blkCells, h]
/-- A block behind a call that only makes memory. -/
theorem bkB {W w1 : World} (hb : Below W.heap.size W w1) (n : Nat) (h : n < W.heap.size) : blkCells w1 n = blkCells W n := blkCells_of (hb.block n h)

theorem putBlk_ov_same {u : World} {b : Nat} {cs c : Array Value} {T : TypeId} : putBlk (ov u b cs T) b c = ov u b c T := by
  refine congrArg (fun h => ({ u with heap := h } : World)) (Array.ext_getElem? fun i => ?_)
  show ((u.heap.setIfInBounds b _).modify b _)[i]? = (u.heap.setIfInBounds b _)[i]?
  rw [Array.getElem?_modify]
  simp only [Array.getElem?_setIfInBounds]
  by_cases e : b = i
  · subst e
    by_cases hb : b < u.heap.size <;> simp [hb]
  · simp [e]
theorem putBlk_ov_other {u : World} {b b' : Nat} {cs c : Array Value} {T : TypeId} (ha : ¬ ((⟨b', 0, none⟩ : Addr) = ⟨b, 0, none⟩)) : putBlk (ov u b cs T) b' c = ov (putBlk u b' c) b cs T := by
  have h := addr_ne ha
  refine congrArg (fun h => ({ u with heap := h } : World)) (Array.ext_getElem? fun i => ?_)
  show ((u.heap.setIfInBounds b _).modify b' _)[i]? = ((u.heap.modify b' _).setIfInBounds b _)[i]?
  simp only [Array.getElem?_modify, Array.getElem?_setIfInBounds, Array.size_modify]
  by_cases e : b = i
  · subst e
    by_cases hb : b < u.heap.size <;> simp [hb, h]
  · by_cases e' : b' = i
    · simp [e, e']
    · simp [e, e']
theorem putBlk_new {w : World} {b : Nat} {cs c : Array Value} {T : TypeId} (h : b = w.heap.size) : putBlk (w.alloc (.cells cs T)) b c = w.alloc (.cells c T) := by
  subst h
  refine congrArg (fun h => ({ w with heap := h } : World)) (Array.ext_getElem? fun i => ?_)
  show ((w.heap.push _).modify _ _)[i]? = (w.heap.push _)[i]?
  simp only [Array.getElem?_modify, Array.getElem?_push]
  by_cases e : i = w.heap.size
  · subst e; simp
  · simp [e, Ne.symm e]
theorem putBlk_old {w : World} {ob : Obj} {b : Nat} {c : Array Value} (h : Old w b) : putBlk (w.alloc ob) b c = (putBlk w b c).alloc ob := by
  unfold Old at h
  refine congrArg (fun h => ({ w with heap := h } : World)) (Array.ext_getElem? fun i => ?_)
  show ((w.heap.push _).modify _ _)[i]? = ((w.heap.modify _ _).push _)[i]?
  simp only [Array.getElem?_modify, Array.getElem?_push, Array.size_modify]
  by_cases e : i = w.heap.size
  · subst e; simp [Nat.ne_of_lt h]
  · simp [e]
theorem putBlk_drew {w : World} {b : Nat} {c : Array Value} : putBlk w.drew b c = (putBlk w b c).drew := Eq.trans rfl rfl
theorem putBlk_drewN {w : World} {b n : Nat} {c : Array Value} : putBlk (w.drewN n) b c = (putBlk w b c).drewN n := Eq.trans rfl rfl
theorem putBlk_size {w : World} {b : Nat} {c : Array Value} : (putBlk w b c).heap.size = w.heap.size := by simp [putBlk]
theorem allOne_nil : allOne [] = true := Eq.trans rfl rfl
theorem allOne_int {k : IntKind} {n : Int} {r : List Value} : allOne (.int k n :: r) = allOne r := by simp [allOne, Value.oneCell']
theorem allOne_bool {x : Bool} {r : List Value} : allOne (.bool x :: r) = allOne r := by simp [allOne, Value.oneCell']
theorem allOne_slice {a : Option Addr} {l c : Nat} {r : List Value} : allOne (.slice a l c :: r) = allOne r := by simp [allOne, Value.oneCell']
theorem allOne_pointer {a : Option Addr} {r : List Value} : allOne (.pointer a :: r) = allOne r := by simp [allOne, Value.oneCell']
theorem allOne_map {a : Option Nat} {r : List Value} : allOne (.map a :: r) = allOne r := by simp [allOne, Value.oneCell']
theorem allOne_string {s : ByteArray} {r : List Value} : allOne (.string s :: r) = allOne r := by simp [allOne, Value.oneCell']
/-- A result that is a struct in a block of the call's own. -/
theorem bodyPost_row {P : Program} {fn : Func} {R : Ending → World → Prop} {a : Act} {w : World} {p : Tmp} {ty : TypeId} {n b : Nat} {cs : Array Value} {T : TypeId} {d : TypeDesc} (hr : fn.results = #[.cell p ty]) (hp : a.tmps.getD p undef = .pointer (some ⟨b, 0, none⟩)) (hg : Has w b cs T)
    (hu : P.underlying ty = some d) (hd : d.isRow = true) (hi : (P.info? ty).map (·.size) = some n) (hn : cs.size = n) (h0 : a.defers = []) (h : R (.returned (.agg cs)) w) : bodyPost P fn R .ret a w :=
  bodyPost_ret (results_cell_row (P := P) hr _ _ b T cs (0, 0) d hp hg hu (by cases d <;> simp_all) (by rw [hi, hn])) h0 h
end Go.Proofs.Ytjcbphhemmdnjaa
