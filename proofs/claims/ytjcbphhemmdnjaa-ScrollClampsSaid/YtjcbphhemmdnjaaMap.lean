/- Maps keyed by ints: what is in a block that is a map; look-ups, stores, deletes as equations. -/
import Derived.Test.YtjcbphhemmdnjaaBut
import Derived.MapKept
import Derived.Maps.Own
namespace Go.Proofs.Ytjcbphhemmdnjaa
open Go Go.RowKit Go.MapKept
set_option linter.unusedSimpArgs false
set_option linter.unusedVariables false

/-! ### lists of entries -/
def mlook : List (Int × Value) → Int → Option Value
  | [], _ => none
  | (a, v) :: L, k => if a = k then some v else mlook L k
def mput : List (Int × Value) → Int → Value → List (Int × Value)
  | [], k, v => [(k, v)]
  | (a, u) :: L, k, v => if a = k then (k, v) :: L else (a, u) :: mput L k v
def mdel : List (Int × Value) → Int → List (Int × Value)
  | [], _ => []
  | (a, u) :: L, k => if a = k then L else (a, u) :: mdel L k
def mgetD (L : List (Int × Value)) (k : Int) (z : Value) : Value := (mlook L k).getD z
def mhas (L : List (Int × Value)) (k : Int) : Bool := (mlook L k).isSome
theorem mgetD_some {L : List (Int × Value)} {k : Int} {v z : Value} (h : mlook L k = some v) : mgetD L k z = v := by rw [mgetD, h]; rfl
theorem mgetD_none {L : List (Int × Value)} {k : Int} {z : Value} (h : mlook L k = none) : mgetD L k z = z := by rw [mgetD, h]; rfl
theorem mhas_some {L : List (Int × Value)} {k : Int} {v : Value} (h : mlook L k = some v) : mhas L k = true := by rw [mhas, h]; rfl
theorem mhas_none {L : List (Int × Value)} {k : Int} (h : mlook L k = none) : mhas L k = false := by rw [mhas, h]; rfl
theorem mlook_put (k : Int) (v : Value) (x : Int) : ∀ L, mlook (mput L k v) x = if x = k then some v else mlook L x
  | [] => by
    show (if k = x then some v else none) = _
    by_cases h : x = k
    · rw [if_pos h, if_pos h.symm]
    · rw [if_neg h, if_neg (Ne.symm h)]; rfl
  | (a, u) :: L => by
    unfold mput
    by_cases h : a = k
    · rw [if_pos h]
      by_cases h2 : x = k
      · rw [if_pos h2, mlook, if_pos h2.symm]
      · rw [if_neg h2, mlook, if_neg (Ne.symm h2), mlook, if_neg (by rw [h]; exact Ne.symm h2)]
    · rw [if_neg h, mlook, mlook_put k v x L]
      by_cases h2 : a = x
      · rw [if_pos h2, if_neg (by rw [← h2]; exact h), mlook, if_pos h2]
      · rw [if_neg h2]
        by_cases h3 : x = k
        · rw [if_pos h3, if_pos h3]
        · rw [if_neg h3, if_neg h3, mlook, if_neg h2]
theorem mput_length (k : Int) (v : Value) : ∀ L, (mput L k v).length = if mhas L k = true then L.length else L.length + 1
  | [] => rfl
  | (a, u) :: L => by
    unfold mput
    by_cases h : a = k
    · rw [if_pos h, if_pos (by rw [mhas, mlook, if_pos h]; rfl)]; rfl
    · rw [if_neg h, List.length_cons, mput_length k v L, mhas, mhas, mlook, if_neg h, List.length_cons]
      split <;> rfl
def mkeys (L : List (Int × Value)) : List Int := L.map (·.1)
theorem mlook_mem {k : Int} : ∀ {L : List (Int × Value)} {v : Value}, mlook L k = some v → (k, v) ∈ L
  | (a, u) :: L, v, h => by
    unfold mlook at h
    by_cases c : a = k
    · rw [if_pos c] at h; cases h; rw [c]; exact .head _
    · rw [if_neg c] at h; exact .tail _ (mlook_mem h)
theorem mlook_of_mem {k : Int} : ∀ {L : List (Int × Value)} {v : Value}, (mkeys L).Nodup → (k, v) ∈ L → mlook L k = some v
  | (a, u) :: L, v, hn, h => by
    have hn2 := List.nodup_cons.1 hn
    unfold mlook
    cases h with
    | head => rw [if_pos rfl]
    | tail _ h =>
      have : a ≠ k := fun e => hn2.1 (by rw [e]; exact List.mem_map_of_mem (f := (·.1)) h)
      rw [if_neg this]; exact mlook_of_mem hn2.2 h
theorem mlook_none {k : Int} : ∀ {L : List (Int × Value)}, mlook L k = none ↔ k ∉ mkeys L
  | [] => by simp [mlook, mkeys]
  | (a, u) :: L => by
    unfold mlook
    by_cases c : a = k
    · rw [if_pos c]; simp [mkeys, c]
    · rw [if_neg c, mlook_none (L := L)]
      simp only [mkeys, List.map_cons, List.mem_cons, not_or]
      exact ⟨fun h => ⟨fun e => c e.symm, h⟩, fun h => h.2⟩
theorem mdel_sub (k : Int) : ∀ L x, x ∈ mkeys (mdel L k) → x ∈ mkeys L
  | [], x, h => h
  | (a, u) :: L, x, h => by
    unfold mdel at h
    by_cases c : a = k
    · rw [if_pos c] at h; exact .tail _ h
    · rw [if_neg c] at h
      rcases List.mem_cons.1 h with e | h
      · rw [e]; exact .head _
      · exact .tail _ (mdel_sub k L x h)
theorem mdel_nodup (k : Int) : ∀ L, (mkeys L).Nodup → (mkeys (mdel L k)).Nodup
  | [], h => h
  | (a, u) :: L, h => by
    have h2 := List.nodup_cons.1 h
    unfold mdel
    by_cases c : a = k
    · rw [if_pos c]; exact h2.2
    · rw [if_neg c]; exact List.nodup_cons.2 ⟨fun q => h2.1 (mdel_sub k L a q), mdel_nodup k L h2.2⟩
theorem mlook_del (k x : Int) : ∀ L, (mkeys L).Nodup → mlook (mdel L k) x = if x = k then none else mlook L x
  | [], h => by simp [mdel, mlook]
  | (a, u) :: L, h => by
    have h2 := List.nodup_cons.1 h
    unfold mdel
    by_cases c : a = k
    · rw [if_pos c, mlook]
      by_cases e : x = k
      · rw [if_pos e, mlook_none, e, ← c]; exact h2.1
      · rw [if_neg e, if_neg (by rw [c]; exact Ne.symm e)]
    · rw [if_neg c, mlook, mlook, mlook_del k x L h2.2]
      by_cases e : x = k
      · rw [if_pos e, if_pos e, if_neg (by rw [e]; exact c)]
      · rw [if_neg e, if_neg e]
theorem mdel_length (k : Int) : ∀ L, (mdel L k).length = if mhas L k = true then L.length - 1 else L.length
  | [] => rfl
  | (a, u) :: L => by
    unfold mdel
    by_cases c : a = k
    · rw [if_pos c, if_pos (by rw [mhas, mlook, if_pos c]; rfl)]; rfl
    · rw [if_neg c, List.length_cons, mdel_length k L, mhas, mhas, mlook, if_neg c, List.length_cons]
      by_cases e : (mlook L k).isSome = true
      · rw [if_pos e, if_pos e]
        cases L with
        | nil => cases e
        | cons _ _ => simp
      · rw [if_neg e, if_neg e]
theorem mput_nodup (k : Int) (v : Value) : ∀ L, (mkeys L).Nodup → (mkeys (mput L k v)).Nodup
  | [], _ => by simp [mput, mkeys]
  | (a, u) :: L, h => by
    have h2 := List.nodup_cons.1 h
    unfold mput
    by_cases c : a = k
    · rw [if_pos c]; rw [← c]; exact h
    · rw [if_neg c]
      refine List.nodup_cons.2 ⟨fun q => ?_, mput_nodup k v L h2.2⟩
      have q2 : mlook (mput L k v) a ≠ none := fun e => (mlook_none.1 e) q
      rw [mlook_put, if_neg c] at q2
      exact q2 (mlook_none.2 h2.1)

/-! ### blocks that are maps -/
def keyZ : Value → Int
  | .int _ k => k
  | _ => 0
def pairsOf (es : List MapEntry) : List (Int × Value) := es.map fun e => (keyZ e.key, e.val)
def mapOf (w : World) (b : Nat) : List (Int × Value) := match w.heap[b]? with
  | some (.map es _) => pairsOf es.toList
  | _ => []
def MapOk (w : World) (b : Nat) : Prop := ∃ es c, w.heap[b]? = some (.map es c) ∧ Stamped es c ∧ ∀ x ∈ es.toList, IsKey (.int .i64) x.key
theorem MapOk.lt {w : World} {b : Nat} (h : MapOk w b) : b < w.heap.size := by
  obtain ⟨es, c, h, _⟩ := h
  exact (Array.getElem?_eq_some_iff.1 h).1
theorem mapOf_eq {w w' : World} {b : Nat} (h : w'.heap[b]? = w.heap[b]?) : mapOf w' b = mapOf w b := by unfold mapOf; rw [h]
theorem mapOk_eq {w w' : World} {b : Nat} (h : w'.heap[b]? = w.heap[b]?) (k : MapOk w b) : MapOk w' b := by unfold MapOk; rw [h]; exact k
theorem isKey_int {v : Value} (h : IsKey (.int .i64) v) : v = .int .i64 (keyZ v) := by
  cases v <;> simp [IsKey] at h
  subst h; rfl
theorem keyZ_inj {u v : Value} (hu : IsKey (.int .i64) u) (hv : IsKey (.int .i64) v) (h : keyZ u = keyZ v) : u = v := by rw [isKey_int hu, isKey_int hv, h]
theorem mapOk_nodup {w : World} {b : Nat} (h : MapOk w b) : (mkeys (mapOf w b)).Nodup := by
  obtain ⟨es, c, h, hs, hk⟩ := h
  unfold mapOf mkeys; rw [h]
  show ((es.toList.map fun e => (keyZ e.key, e.val)).map (·.1)).Nodup
  rw [List.map_map]
  have hn := hs.2.2
  rw [List.nodup_iff_pairwise_ne, List.pairwise_map] at hn ⊢
  exact hn.imp_of_mem (fun ha hb hab e => hab (keyZ_inj (hk _ ha) (hk _ hb) e))
theorem findNow_pairs (k : Int) : ∀ (l : List MapEntry) (i : Nat), (∀ x ∈ l, IsKey (.int .i64) x.key) →
    (mlook (pairsOf l) k = none ∧ Instr.findNow (.int .i64) (.int .i64 k) l i = some none ∧ ∀ x ∈ l, x.key ≠ .int .i64 k) ∨
    ∃ j e, mlook (pairsOf l) k = some e.val ∧ Instr.findNow (.int .i64) (.int .i64 k) l i = some (some (i + j, e.val)) ∧ l[j]? = some e ∧ e.key = .int .i64 k
  | [], i, _ => .inl ⟨rfl, rfl, by simp⟩
  | e :: es, i, h => by
    have he := isKey_int (h e (.head _))
    by_cases c : keyZ e.key = k
    · refine .inr ⟨0, e, ?_, ?_, rfl, by rw [he, c]⟩
      · show (if keyZ e.key = k then _ else _) = _; rw [if_pos c]
      · rw [Instr.findNow, he, c]; simp [Instr.sameNow]
    · have hne : e.key ≠ .int .i64 k := fun q => by rw [q] at c; exact c rfl
      have hs : Instr.findNow (.int .i64) (.int .i64 k) (e :: es) i = Instr.findNow (.int .i64) (.int .i64 k) es (i + 1) := by
        rw [Instr.findNow, he]; simp only [Instr.sameNow, if_true, show (k == keyZ e.key) = false by simp; exact Ne.symm c]
      have hm : mlook (pairsOf (e :: es)) k = mlook (pairsOf es) k := by
        show (if keyZ e.key = k then _ else _) = _; rw [if_neg c]; rfl
      rw [hs, hm]
      rcases findNow_pairs k es (i + 1) (fun x hx => h x (.tail _ hx)) with ⟨h1, h2, h3⟩ | ⟨j, e', h1, h2, h3, h4⟩
      · exact .inl ⟨h1, h2, fun x hx => by cases hx with | head => exact hne | tail _ hx => exact h3 x hx⟩
      · exact .inr ⟨j + 1, e', h1, by rw [h2]; simp; omega, h3, h4⟩
/-- What a store makes of a block. -/
def putE (es : Array MapEntry) (c : Nat) (k : Int) (v : Value) : Obj := match Instr.findNow (.int .i64) (.int .i64 k) es.toList 0 with
  | some (some (i, _)) => .map (es.modify i fun e => { e with key := .int .i64 k, val := v }) c
  | _ => .map (es.push { key := .int .i64 k, val := v, born := c }) (c + 1)
def putM (w : World) (b : Nat) (k : Int) (v : Value) : World := match w.heap[b]? with
  | some (.map es c) => { w with heap := w.heap.setIfInBounds b (putE es c k v) }
  | _ => w
def delE (es : Array MapEntry) (c : Nat) (k : Int) : Obj := match Instr.findNow (.int .i64) (.int .i64 k) es.toList 0 with
  | some (some (i, _)) => .map (es.eraseIdxIfInBounds i) c
  | _ => .map es c
def delM (w : World) (b : Nat) (k : Int) : World := match w.heap[b]? with
  | some (.map es c) => { w with heap := w.heap.setIfInBounds b (delE es c k) }
  | _ => w
section runs
variable {P : Program} {w : World} {b : Nat} {t kt et : TypeId}
theorem run_lookM (ht : P.underlying t = some (.map kt et)) (hk : P.underlying kt = some (.int .i64)) {z : Value} (hz : ∀ w : World, (zeroValue et).run P w = .ok z w) (k : Int) (h : MapOk w b) :
    (Instr.lookup t (.map (some b)) (.int .i64 k) false).run P w = .ok (mgetD (mapOf w b) k z) w := by
  obtain ⟨es, c, hb, hs, hks⟩ := h
  unfold mapOf; rw [hb]
  show _ = Result.ok (mgetD (pairsOf es.toList) k z) w
  simp only [Instr.lookup, Sem.run_bind, run_underlying ht, Go.MapKept.run_getObj_map hb, Go.MapKept.run_checkKey hk (show IsKey (.int .i64) (.int .i64 k) from rfl), Result.andThen, Sem.run_pure]
  rcases findNow_pairs k es.toList 0 hks with ⟨h1, h2, h3⟩ | ⟨j, e, h1, h2, h3, h4⟩
  · simp [Go.MapKept.run_findKey hk h2, Result.andThen, hz, mgetD, h1]
  · simp [Go.MapKept.run_findKey hk h2, Result.andThen, mgetD, h1]
theorem run_lookMok (ht : P.underlying t = some (.map kt et)) (hk : P.underlying kt = some (.int .i64)) {z : Value} (hz : ∀ w : World, (zeroValue et).run P w = .ok z w) (k : Int) (h : MapOk w b) :
    (Instr.lookup t (.map (some b)) (.int .i64 k) true).run P w = .ok (.tuple #[mgetD (mapOf w b) k z, .bool (mhas (mapOf w b) k)]) w := by
  obtain ⟨es, c, hb, hs, hks⟩ := h
  unfold mapOf; rw [hb]
  show _ = Result.ok (Value.tuple #[mgetD (pairsOf es.toList) k z, .bool (mhas (pairsOf es.toList) k)]) w
  simp only [Instr.lookup, Sem.run_bind, run_underlying ht, Go.MapKept.run_getObj_map hb, Go.MapKept.run_checkKey hk (show IsKey (.int .i64) (.int .i64 k) from rfl), Result.andThen, Sem.run_pure]
  rcases findNow_pairs k es.toList 0 hks with ⟨h1, h2, h3⟩ | ⟨j, e, h1, h2, h3, h4⟩
  · simp [Go.MapKept.run_findKey hk h2, Result.andThen, hz, mgetD, mhas, h1]
  · simp [Go.MapKept.run_findKey hk h2, Result.andThen, mgetD, mhas, h1]
theorem run_putM (ht : P.underlying t = some (.map kt et)) (hk : P.underlying kt = some (.int .i64)) (k : Int) (v : Value) (h : MapOk w b) :
    (Instr.mapUpdate t (.map (some b)) (.int .i64 k) v).run P w = .ok () (putM w b k v) := by
  obtain ⟨es, c, hb, hs, hks⟩ := h
  simp only [Instr.mapUpdate, Sem.run_bind, run_underlying ht, Go.MapKept.run_getObj_map hb, Go.MapKept.run_checkKey hk (show IsKey (.int .i64) (.int .i64 k) from rfl), Result.andThen, putM, hb, putE]
  rcases findNow_pairs k es.toList 0 hks with ⟨h1, h2, h3⟩ | ⟨j, e, h1, h2, h3, h4⟩
  · simp only [Go.MapKept.run_findKey hk h2, h2, Go.MapKept.run_setObj_map _ hb]
  · have e1 : es[0 + j]? = some e := by simpa using h3
    simp only [Go.MapKept.run_findKey hk h2, h2, Sem.run_bind, e1, Option.map_some, Option.getD_some, h4, Instr.keyThatStays, Instr.sameBits, beq_self_eq_true, Bool.and_self, if_true, Sem.run_pure, Result.andThen, Go.MapKept.run_setObj_map _ hb]
theorem run_delM (ht : P.underlying t = some (.map kt et)) (hk : P.underlying kt = some (.int .i64)) (ty : TypeId) (k : Int) (h : MapOk w b) :
    (Builtin.delete_ #[t, kt] ty #[.map (some b), .int .i64 k]).run P w = .ok (.tuple #[]) (delM w b k) := by
  obtain ⟨es, c, hb, hs, hks⟩ := h
  simp only [Builtin.delete_, Sem.run_bind, run_underlying ht, Go.MapKept.run_getObj_map hb, Go.MapKept.run_checkKey hk (show IsKey (.int .i64) (.int .i64 k) from rfl), Result.andThen, delM, hb, delE, List.getElem?_toArray, List.getElem?_cons_zero, List.getElem?_cons_succ]
  rcases findNow_pairs k es.toList 0 hks with ⟨h1, h2, h3⟩ | ⟨j, e, h1, h2, h3, h4⟩
  · simp [Go.MapKept.run_findKey hk h2, h2, Go.MapKept.run_setObj_map _ hb, Result.andThen]
  · simp [Go.MapKept.run_findKey hk h2, h2, Go.MapKept.run_setObj_map _ hb, Result.andThen]
theorem run_lenM (ht : P.underlying t = some (.map kt et)) (ty : TypeId) (h : MapOk w b) : (Builtin.len_ #[t] ty #[.map (some b)]).run P w = .ok (.int .i64 ((mapOf w b).length : Nat)) w := by
  obtain ⟨es, c, hb, hs, hks⟩ := h
  unfold mapOf; rw [hb]
  show _ = Result.ok (Value.int .i64 ((pairsOf es.toList).length : Nat)) w
  simp [Builtin.len_, run_underlying ht, Go.MapKept.run_getObj_map hb, Result.andThen, pairsOf, goInt]
end runs
theorem pairs_modify (k : Int) (v : Value) : ∀ (l : List MapEntry) (j : Nat) (e : MapEntry), (∀ x ∈ l, IsKey (.int .i64) x.key) → l[j]? = some e → e.key = .int .i64 k → (∀ i, i < j → ∀ x, l[i]? = some x → x.key ≠ .int .i64 k) → pairsOf (l.modify j fun e => { e with key := .int .i64 k, val := v }) = mput (pairsOf l) k v
  | [], j, e, _, h, _, _ => by simp at h
  | x :: l, 0, e, hk, h, he, _ => by
    obtain rfl : x = e := by simpa using h
    show (k, v) :: pairsOf l = mput ((keyZ x.key, x.val) :: pairsOf l) k v
    rw [mput, if_pos (by rw [he]; rfl)]
  | x :: l, j + 1, e, hk, h, he, hn => by
    have hx : keyZ x.key ≠ k := fun q => hn 0 (by omega) x rfl (by rw [isKey_int (hk x (.head _)), q])
    show (keyZ x.key, x.val) :: pairsOf (l.modify j _) = mput ((keyZ x.key, x.val) :: pairsOf l) k v
    rw [mput, if_neg hx, pairs_modify k v l j e (fun y hy => hk y (.tail _ hy)) (by simpa using h) he (fun i hi y hy => hn (i + 1) (by omega) y (by simpa using hy))]
theorem pairs_push (k : Int) (v : Value) (c : Nat) : ∀ (l : List MapEntry), mlook (pairsOf l) k = none → pairsOf (l ++ [⟨.int .i64 k, v, c⟩]) = mput (pairsOf l) k v
  | [], _ => rfl
  | x :: l, h => by
    have h : (if keyZ x.key = k then some x.val else mlook (pairsOf l) k) = none := h
    by_cases c1 : keyZ x.key = k
    · rw [if_pos c1] at h; cases h
    · rw [if_neg c1] at h
      show (keyZ x.key, x.val) :: pairsOf (l ++ _) = mput ((keyZ x.key, x.val) :: pairsOf l) k v
      rw [mput, if_neg c1, pairs_push k v c l h]
theorem pairs_erase (k : Int) : ∀ (l : List MapEntry) (j : Nat) (e : MapEntry), (∀ x ∈ l, IsKey (.int .i64) x.key) → l[j]? = some e → e.key = .int .i64 k → (∀ i, i < j → ∀ x, l[i]? = some x → x.key ≠ .int .i64 k) → pairsOf (l.eraseIdx j) = mdel (pairsOf l) k
  | [], j, e, _, h, _, _ => by simp at h
  | x :: l, 0, e, hk, h, he, _ => by
    obtain rfl : x = e := by simpa using h
    show pairsOf l = mdel ((keyZ x.key, x.val) :: pairsOf l) k
    rw [mdel, if_pos (by rw [he]; rfl)]
  | x :: l, j + 1, e, hk, h, he, hn => by
    have hx : keyZ x.key ≠ k := fun q => hn 0 (by omega) x rfl (by rw [isKey_int (hk x (.head _)), q])
    show (keyZ x.key, x.val) :: pairsOf (l.eraseIdx j) = mdel ((keyZ x.key, x.val) :: pairsOf l) k
    rw [mdel, if_neg hx, pairs_erase k l j e (fun y hy => hk y (.tail _ hy)) (by simpa using h) he (fun i hi y hy => hn (i + 1) (by omega) y (by simpa using hy))]
theorem mdel_absent {k : Int} : ∀ {L : List (Int × Value)}, mlook L k = none → mdel L k = L
  | [], _ => rfl
  | (a, u) :: L, h => by
    unfold mlook at h
    by_cases c : a = k
    · rw [if_pos c] at h; cases h
    · rw [if_neg c] at h
      rw [mdel, if_neg c, mdel_absent h]
/-- Entries ahead of the one with this key have other keys. -/
theorem keys_ahead {es : Array MapEntry} {c j : Nat} {e : MapEntry} (hs : Stamped es c) (h : es.toList[j]? = some e) : ∀ i, i < j → ∀ x, es.toList[i]? = some x → x.key ≠ e.key := by
  intro i hi x hx q
  have hn := hs.2.2
  rw [List.nodup_iff_pairwise_ne, List.pairwise_map, List.pairwise_iff_getElem] at hn
  obtain ⟨h1, rfl⟩ := List.getElem?_eq_some_iff.1 h
  obtain ⟨h2, rfl⟩ := List.getElem?_eq_some_iff.1 hx
  exact hn i j h2 h1 hi q
theorem mapOf_set {w : World} {b : Nat} {es es' : Array MapEntry} {c c' : Nat} (hb : w.heap[b]? = some (.map es c)) : mapOf { w with heap := w.heap.setIfInBounds b (.map es' c') } b = pairsOf es'.toList := by
  unfold mapOf
  rw [show ({ w with heap := w.heap.setIfInBounds b (.map es' c') } : World).heap[b]? = some (.map es' c') from (heap_set hb).1]
theorem put_same {w : World} {b : Nat} {k : Int} {v : Value} (h : MapOk w b) : MapOk (putM w b k v) b ∧ mapOf (putM w b k v) b = mput (mapOf w b) k v := by
  obtain ⟨es, c, hb, hs, hks⟩ := h
  have e0 : mapOf w b = pairsOf es.toList := by unfold mapOf; rw [hb]
  rw [e0]
  simp only [putM, hb, putE]
  rcases findNow_pairs k es.toList 0 hks with ⟨h1, h2, h3⟩ | ⟨j, e, h1, h2, h3, h4⟩
  · simp only [h2]
    refine ⟨⟨_, _, (heap_set hb).1, stamped_push hs h3, ?_⟩, ?_⟩
    · intro x hx
      rw [Array.toList_push, List.mem_append, List.mem_singleton] at hx
      rcases hx with hx | rfl
      · exact hks x hx
      · exact rfl
    · rw [mapOf_set hb, Array.toList_push, pairs_push k v c _ h1]
  · simp only [h2, Nat.zero_add]
    refine ⟨⟨_, _, (heap_set hb).1, stamped_modify hs _ _ (fun _ _ => rfl) (fun e' _ he' => ?_), ?_⟩, ?_⟩
    · have e1 : es[j]? = some e := by rw [← Array.getElem?_toList]; exact h3
      rw [e1] at he'; cases he'; exact h4.symm
    · intro x hx
      rw [Array.toList_modify] at hx
      obtain ⟨i, hi, rfl⟩ := List.getElem_of_mem hx
      rw [List.getElem_modify]
      split
      · exact rfl
      · exact hks _ (List.getElem_mem _)
    · rw [mapOf_set hb, Array.toList_modify, pairs_modify k v _ j e hks h3 h4 (by rw [← h4]; exact keys_ahead hs h3)]
theorem del_same {w : World} {b : Nat} {k : Int} (h : MapOk w b) : MapOk (delM w b k) b ∧ mapOf (delM w b k) b = mdel (mapOf w b) k := by
  obtain ⟨es, c, hb, hs, hks⟩ := h
  have e0 : mapOf w b = pairsOf es.toList := by unfold mapOf; rw [hb]
  rw [e0]
  simp only [delM, hb, delE]
  rcases findNow_pairs k es.toList 0 hks with ⟨h1, h2, h3⟩ | ⟨j, e, h1, h2, h3, h4⟩
  · simp only [h2]
    exact ⟨⟨_, _, (heap_set hb).1, hs, hks⟩, by rw [mapOf_set hb, mdel_absent h1]⟩
  · simp only [h2, Nat.zero_add]
    have hj : j < es.size := by
      have := (List.getElem?_eq_some_iff.1 h3).1
      simpa using this
    have et : (es.eraseIdxIfInBounds j).toList = es.toList.eraseIdx j := by
      rw [Array.eraseIdxIfInBounds, dif_pos hj, Array.toList_eraseIdx]
    refine ⟨⟨_, _, (heap_set hb).1, stamped_erase hs _, ?_⟩, ?_⟩
    · intro x hx
      rw [et] at hx
      exact hks x (List.mem_of_mem_eraseIdx hx)
    · rw [mapOf_set hb, et, pairs_erase k _ j e hks h3 h4 (by rw [← h4]; exact keys_ahead hs h3)]
theorem putM_other {w : World} {b n : Nat} {k : Int} {v : Value} (h : n ≠ b) : (putM w b k v).heap[n]? = w.heap[n]? := by
  unfold putM
  split
  · exact Array.getElem?_setIfInBounds_ne (Ne.symm h)
  · rfl
theorem delM_other {w : World} {b n : Nat} {k : Int} (h : n ≠ b) : (delM w b k).heap[n]? = w.heap[n]? := by
  unfold delM
  split
  · exact Array.getElem?_setIfInBounds_ne (Ne.symm h)
  · rfl
@[simp] theorem putM_size {w : World} {b : Nat} {k : Int} {v : Value} : (putM w b k v).heap.size = w.heap.size := by unfold putM; split <;> simp
@[simp] theorem delM_size {w : World} {b : Nat} {k : Int} : (delM w b k).heap.size = w.heap.size := by unfold delM; split <;> simp
/-! ### rules of the walk -/
theorem mapOk_put_same {w : World} {b : Nat} {k : Int} {v : Value} (h : MapOk w b) : MapOk (putM w b k v) b := (put_same h).1
theorem mapOf_put_same {w : World} {b : Nat} {k : Int} {v : Value} (h : MapOk w b) : mapOf (putM w b k v) b = mput (mapOf w b) k v := (put_same h).2
theorem mapOk_del_same {w : World} {b : Nat} {k : Int} (h : MapOk w b) : MapOk (delM w b k) b := (del_same h).1
theorem mapOf_del_same {w : World} {b : Nat} {k : Int} (h : MapOk w b) : mapOf (delM w b k) b = mdel (mapOf w b) k := (del_same h).2
theorem mapOk_put_other {w : World} {b n : Nat} {k : Int} {v : Value} (hn : ¬ n = b) (h : MapOk w n) : MapOk (putM w b k v) n := mapOk_eq (putM_other hn) h
theorem mapOf_put_other {w : World} {b n : Nat} {k : Int} {v : Value} (hn : ¬ n = b) : mapOf (putM w b k v) n = mapOf w n := mapOf_eq (putM_other hn)
theorem mapOk_alloc {w : World} {ob : Obj} {n : Nat} (h : MapOk w n) : MapOk (w.alloc ob) n := mapOk_eq (Below.heap_alloc w ob n h.lt) h
theorem mapOf_alloc {w : World} {ob : Obj} {n : Nat} (h : Old w n) : mapOf (w.alloc ob) n = mapOf w n := mapOf_eq (Below.heap_alloc w ob n h)
theorem mapOk_new {w : World} {n : Nat} (h : n = w.heap.size) : MapOk (w.alloc (.map #[] 0)) n := by
  subst h
  exact ⟨#[], 0, by show (w.heap.push _)[w.heap.size]? = _; simp, stamped_empty 0, by simp⟩
theorem mapOf_new {w : World} {n : Nat} (h : n = w.heap.size) : mapOf (w.alloc (.map #[] 0)) n = [] := by
  subst h
  unfold mapOf
  rw [show (w.alloc (.map #[] 0)).heap[w.heap.size]? = some (.map #[] 0) by show (w.heap.push _)[w.heap.size]? = _; simp]
  rfl
theorem mapOk_drew {w : World} {n : Nat} : MapOk w.drew n = MapOk w n := rfl
theorem mapOf_drew {w : World} {n : Nat} : mapOf w.drew n = mapOf w n := rfl
theorem mapOk_drewN {w : World} {n m : Nat} : MapOk (w.drewN m) n = MapOk w n := rfl
theorem mapOf_drewN {w : World} {n m : Nat} : mapOf (w.drewN m) n = mapOf w n := rfl
theorem mapOk_ov {u : World} {b n : Nat} {cs : Array Value} {T : TypeId} (hn : ¬ n = b) (h : MapOk u n) : MapOk (ov u b cs T) n := mapOk_eq (Array.getElem?_setIfInBounds_ne (Ne.symm hn)) h
theorem mapOf_ov {u : World} {b n : Nat} {cs : Array Value} {T : TypeId} (hn : ¬ n = b) : mapOf (ov u b cs T) n = mapOf u n := mapOf_eq (Array.getElem?_setIfInBounds_ne (Ne.symm hn))
theorem cell_putM {w : World} {b n o : Nat} {k : Int} {v : Value} (hn : ¬ n = b) : (putM w b k v).cell? ⟨n, o, none⟩ = w.cell? ⟨n, o, none⟩ := World.cell?_of_block (w := w) (putM_other hn)
theorem frozen_putM {w : World} {b n o : Nat} {k : Int} {v : Value} (hn : ¬ n = b) : (putM w b k v).frozen? ⟨n, o, none⟩ = w.frozen? ⟨n, o, none⟩ := World.frozen?_of_block (w := w) (putM_other hn)
theorem old_putM {w : World} {b n : Nat} {k : Int} {v : Value} : Old (putM w b k v) n = Old w n := by unfold Old; rw [putM_size]
theorem has_putM {w : World} {b n : Nat} {k : Int} {v : Value} {cs : Array Value} {T : TypeId} (hn : n ≠ b) (h : Has w n cs T) : Has (putM w b k v) n cs T := (putM_other hn).trans h
theorem has_delM {w : World} {b n : Nat} {k : Int} {cs : Array Value} {T : TypeId} (hn : n ≠ b) (h : Has w n cs T) : Has (delM w b k) n cs T := (delM_other hn).trans h
/-- All that was there is as it was, but for the blocks of which S holds. -/
structure ButS (S : Nat → Prop) (B : Nat) (w w' : World) : Prop where
  os : w'.os = w.os
  tape : w'.tape = w.tape
  output : w'.output = w.output
  size : w.heap.size ≤ w'.heap.size
  block : ∀ k, k < B → ¬ S k → w'.heap[k]? = w.heap[k]?
theorem ButS.refl (S : Nat → Prop) (B : Nat) (w : World) : ButS S B w w := ⟨rfl, rfl, rfl, Nat.le_refl _, fun _ _ _ => rfl⟩
theorem ButS.of {S : Nat → Prop} {B : Nat} {w w' : World} (h : Below B w w') : ButS S B w w' := ⟨h.os, h.tape, h.output, h.size, fun k hk _ => h.block k hk⟩
theorem ButS.trans {S : Nat → Prop} {B : Nat} {w v v' : World} (h : ButS S B w v) (k : ButS S B v v') : ButS S B w v' :=
  ⟨k.os.trans h.os, k.tape.trans h.tape, k.output.trans h.output, Nat.le_trans h.size k.size, fun i hi hn => (k.block i hi hn).trans (h.block i hi hn)⟩
theorem ButS.then {S : Nat → Prop} {B : Nat} {w v v' : World} (h : ButS S B w v) (k : Below v.heap.size v v') (hB : B ≤ v.heap.size) : ButS S B w v' := h.trans (.of (k.mono hB))
theorem ButS.less {S : Nat → Prop} {B C : Nat} {w v : World} (h : ButS S B w v) (hC : C ≤ B) : ButS S C w v := ⟨h.os, h.tape, h.output, h.size, fun k hk hs => h.block k (Nat.lt_of_lt_of_le hk hC) hs⟩
theorem ButS.more {S S' : Nat → Prop} {B : Nat} {w v : World} (h : ButS S B w v) (hS : ∀ k, k < B → S k → S' k) : ButS S' B w v := ⟨h.os, h.tape, h.output, h.size, fun k hk hs => h.block k hk (fun q => hs (hS k hk q))⟩
theorem ButS.below {S : Nat → Prop} {B : Nat} {w v : World} (h : ButS S B w v) (hS : ∀ k, k < B → ¬ S k) : Below B w v := ⟨h.os, h.tape, h.output, h.size, fun k hk => h.block k hk (hS k hk)⟩
theorem ButS.put {S : Nat → Prop} {B b : Nat} {w v : World} {k : Int} {x : Value} (h : ButS S B w v) (hb : B ≤ b ∨ S b) : ButS S B w (putM v b k x) :=
  ⟨by rw [← h.os]; unfold putM; split <;> rfl, by rw [← h.tape]; unfold putM; split <;> rfl, by rw [← h.output]; unfold putM; split <;> rfl, by rw [putM_size]; exact h.size, fun i hi hn => (putM_other (fun e => by subst e; rcases hb with q | q; omega; exact hn q)).trans (h.block i hi hn)⟩
theorem ButS.del {S : Nat → Prop} {B b : Nat} {w v : World} {k : Int} (h : ButS S B w v) (hb : B ≤ b ∨ S b) : ButS S B w (delM v b k) :=
  ⟨by rw [← h.os]; unfold delM; split <;> rfl, by rw [← h.tape]; unfold delM; split <;> rfl, by rw [← h.output]; unfold delM; split <;> rfl, by rw [delM_size]; exact h.size, fun i hi hn => (delM_other (fun e => by subst e; rcases hb with q | q; omega; exact hn q)).trans (h.block i hi hn)⟩
theorem ButS.ovs {S : Nat → Prop} {B b : Nat} {w v : World} (h : ButS S B w v) (hb : B ≤ b ∨ S b) (c : Array Value) (T : TypeId) : ButS S B w (ov v b c T) :=
  ⟨h.os, h.tape, h.output, by rw [ov_size]; exact h.size, fun i hi hn => (Array.getElem?_setIfInBounds_ne (fun e => by subst e; rcases hb with q | q; omega; exact hn q)).trans (h.block i hi hn)⟩
theorem ButS.alloc {S : Nat → Prop} {B : Nat} {w v : World} (h : ButS S B w v) (hB : B ≤ v.heap.size) (o : Obj) : ButS S B w (v.alloc o) := h.trans (.of ((Below.refl B v).alloc hB o))
theorem ButS.drew {S : Nat → Prop} {B : Nat} {w v : World} (h : ButS S B w v) : ButS S B w v.drew := ⟨h.os, h.tape, h.output, h.size, h.block⟩
theorem ButS.drewN {S : Nat → Prop} {B : Nat} {w v : World} (h : ButS S B w v) (n : Nat) : ButS S B w (v.drewN n) := ⟨h.os, h.tape, h.output, h.size, h.block⟩
theorem ButS.setCell {S : Nat → Prop} {B b o : Nat} {w v : World} {x : Value} (h : ButS S B w v) (hb : B ≤ b ∨ S b) : ButS S B w (v.setCell ⟨b, o, none⟩ x) :=
  ⟨h.os, h.tape, h.output, by rw [World.size_setCell]; exact h.size, fun i hi hn => by
    have hne : b ≠ i := fun e => by subst e; rcases hb with q | q; omega; exact hn q
    rw [← h.block i hi hn]
    show (v.heap.modify b _)[i]? = _
    rw [Array.getElem?_modify, if_neg hne]⟩
theorem ButS.has {S : Nat → Prop} {B n : Nat} {w w' : World} {c : Array Value} {T : TypeId} (h : ButS S B w w') (h0 : Has w n c T) (hB : n < B) (hn : ¬ S n) : Has w' n c T := (h.block n hB hn).trans h0
end Go.Proofs.Ytjcbphhemmdnjaa
