/- Rows that are appended to and written in, side by side: which block an append leaves; rows of numbers from 0 on; kids' rows that lie apart; a tree beside them. A maker's world: a tree, own rows, own blocks, own maps, all apart; what each step leaves. -/
import Derived.Test.YtjcbphhemmdnjaaTreeA
import Derived.Test.YtjcbphhemmdnjaaTreeN
namespace Go.Proofs.Ytjcbphhemmdnjaa
open Go Go.RowKit
set_option linter.unusedSimpArgs false
set_option linter.unusedVariables false

theorem name_w {f : World → Prop} {w : World} (h : ∀ W, W = w → f W) : f w := h w rfl
/-- An append to an own row, with the block that it leaves. -/
theorem wp_append_id {P : Program} (w : World) {o : Oper} {a : Act} {K : Act → World → Prop} {Q : Exit → Act → World → Prop} (s x : Operand) (t : TypeId)
    (ho : o.op = .call { callee := .builtin .append, args := #[s, x], argTypes := #[t, t] })
    (base : Nat) (e : TypeId) (i : TypeInfo) (z : Value) (size bytes : Nat) (ht : P.underlying t = some (.slice e)) (hi : P.info? e = some i) (hz : i.zero = some z)
    (hsize : i.size = size) (hby : i.bytes = bytes) (hzs : z.cells.size = size) (hsz : 0 < size)
    (v : Value) (n : Nat) (xs : List Value) (hs : a.eval s = v) (hown : w.ownsRow base e size v n xs)
    (ad : Addr) (m c : Nat) (news : List Value) (hx : a.eval x = .slice (some ad) m c) (hl : news.length = m * size) (hnews : ∀ j u, news[j]? = some u → w.cell? (ad.add j) = some u) (h1 : ∀ u ∈ news, u.oneCell' = true)
    (h63 : n + m ≤ maxLen) (hbytes : (n + m) * bytes ≤ 140737488355328) (hbase : base ≤ w.heap.size) (hm : 0 < m)
    (h : ∀ v' w', w'.ownsRow base e size v' (n + m) (xs ++ news) → w.grownBy w' v.ownBlock → (v'.ownBlock = v.ownBlock ∧ w'.heap.size = w.heap.size ∨ v'.ownBlock = some w.heap.size ∧ w.heap.size < w'.heap.size) → K (a.put o.dst v') w') : o.wp P a w K Q := by
  obtain ⟨v', w', hr, h2, h3, h4⟩ := run_append_own (P := P) w base t o.type e i z size bytes ht hi hz hsize hby hzs hsz v n xs hown ad m c news hl hnews h1 h63 hbytes hbase
  have hid : v'.ownBlock = v.ownBlock ∧ w'.heap.size = w.heap.size ∨ v'.ownBlock = some w.heap.size ∧ w.heap.size < w'.heap.size := by
    subst hsize hby
    have hsmall : n + m ≤ 9223372036854775807 := by simp only [maxLen] at h63; omega
    rcases hown.2 with ⟨rfl, rfl⟩ | ⟨g, cap, cur, rfl, hbg, hg, hnc, hcm, hcs, htake⟩
    · have hr' := run_append_nil (P := P) w t o.type e i z ht hi hz ad m c news hl hnews hm (by omega) (by have hb := hbytes; simp only [Nat.zero_add] at hb; omega)
      rw [hr] at hr'
      cases hr'
      exact .inr ⟨rfl, by simp⟩
    · by_cases hroom : n + m ≤ cap
      · have hr' := run_append_room (P := P) w t o.type e i ht hi g n cap cur hg ad m c news hl hnews h1 hroom (by rw [hl, hcs, ← Nat.add_mul]; exact Nat.mul_le_mul_right _ hroom)
        rw [hr] at hr'
        cases hr'
        exact .inl ⟨rfl, by simp⟩
      · have hr' := run_append_grow (P := P) w t o.type e i z ht hi hz ⟨g, 0, none⟩ n cap xs hown.1 (hown.cells (g := g) rfl) ad m c news hl hnews (by omega) (by omega) (growslice_fits (by omega) hbytes)
        rw [hr] at hr'
        cases hr'
        exact .inr ⟨rfl, by simp⟩
  unfold Oper.wp execOp
  simp only [ho, resolve, invoke, builtin, Sem.run_bind, Sem.run_pure, Result.andThen_ok, List.map_toArray, List.map_cons, List.map_nil, hs, hx, hr]
  exact h v' w' h2 h3 hid

theorem wpList_append_id {P : Program} (w : World) {ops : Array Oper} {rest : List Oper} {o : Oper} {a : Act} {Q : Exit → Act → World → Prop} (hgd : o.guard = none) (s x : Operand) (t : TypeId)
    (ho : o.op = .call { callee := .builtin .append, args := #[s, x], argTypes := #[t, t] })
    (base : Nat) (e : TypeId) (i : TypeInfo) (z : Value) (size bytes : Nat) (ht : P.underlying t = some (.slice e)) (hi : P.info? e = some i) (hz : i.zero = some z)
    (hsize : i.size = size) (hby : i.bytes = bytes) (hzs : z.cells.size = size) (hsz : 0 < size)
    (v : Value) (n : Nat) (xs : List Value) (hs : a.eval s = v) (hown : w.ownsRow base e size v n xs)
    (ad : Addr) (m c : Nat) (news : List Value) (hx : a.eval x = .slice (some ad) m c) (hl : news.length = m * size) (hnews : ∀ j u, news[j]? = some u → w.cell? (ad.add j) = some u) (h1 : ∀ u ∈ news, u.oneCell' = true)
    (h63 : n + m ≤ maxLen) (hbytes : (n + m) * bytes ≤ 140737488355328) (hbase : base ≤ w.heap.size) (hm : 0 < m)
    (h : ∀ v' w', w'.ownsRow base e size v' (n + m) (xs ++ news) → w.grownBy w' v.ownBlock → (v'.ownBlock = v.ownBlock ∧ w'.heap.size = w.heap.size ∨ v'.ownBlock = some w.heap.size ∧ w.heap.size < w'.heap.size) → wpList P ops Q rest (a.put o.dst v') w') : wpList P ops Q (o :: rest) a w :=
  wpList_plain hgd fun _ hK => wp_append_id w s x t ho base e i z size bytes ht hi hz hsize hby hzs hsz v n xs hs hown ad m c news hx hl hnews h1 h63 hbytes hbase hm fun v' w' h2 h3 h4 => hK _ _ (h v' w' h2 h3 h4)
/-- A struct of one given field, built. -/
def runBuild (P : Program) (ty : TypeId) (ps : Array (Nat × Value)) (w : World) : Result Next := (do pure (.value (← Instr.build ty ps)) : Sem Next).run P w
theorem exec_build1 {P : Program} {ρ : Operand → Value} {d : Option Tmp} {ty t : TypeId} {k : Nat} {x : Operand} {po : String} {af : Array Edge} {g : Option (Nat × Bool)} (w : World) : (execOp ρ ⟨d, .build ty #[(k, x)], t, po, af, g⟩).run P w = runBuild P ty #[(k, ρ x)] w := by
  have e : (#[(k, x)] : Array (Nat × Operand)).map (fun (i, x) => (i, ρ x)) = #[(k, ρ x)] := by simp
  unfold runBuild
  rw [← e]
  rfl
/-- A slice of one given element, built. -/
def runBuildSl (P : Program) (ty : TypeId) (n : Nat) (ps : Array (Nat × Value)) (w : World) : Result Next := (do pure (.value (← Instr.buildSlice ty n ps)) : Sem Next).run P w
theorem exec_buildSl1 {P : Program} {ρ : Operand → Value} {d : Option Tmp} {ty t : TypeId} {n k : Nat} {x : Operand} {po : String} {af : Array Edge} {g : Option (Nat × Bool)} (w : World) : (execOp ρ ⟨d, .buildSlice ty n #[(k, x)], t, po, af, g⟩).run P w = runBuildSl P ty n #[(k, ρ x)] w := by
  have e : (#[(k, x)] : Array (Nat × Operand)).map (fun (i, x) => (i, ρ x)) = #[(k, ρ x)] := by simp
  unfold runBuildSl
  rw [← e]
  rfl
theorem has_ty {w : World} {b : Nat} {cs cs' : Array Value} {T T' : TypeId} (h : Has w b cs T) (h' : Has w b cs' T') : T = T' := by
  unfold Has at h h'
  rw [h] at h'
  cases h'; rfl
/-- What V tells of 0, 1, .. below i, behind one another. -/
def rng (V : Nat → List Value) : Nat → List Value
  | 0 => []
  | i + 1 => rng V i ++ V i
theorem rng_len {V : Nat → List Value} {s : Nat} (hV : ∀ k, (V k).length = s) : ∀ i, (rng V i).length = i * s
  | 0 => by simp [rng]
  | i + 1 => by
    show (rng V i ++ V i).length = _
    rw [List.length_append, rng_len hV i, hV, Nat.add_mul, Nat.one_mul]
theorem rng_get {V : Nat → List Value} {s : Nat} (hV : ∀ k, (V k).length = s) {q o : Nat} (ho : o < s) : ∀ {i : Nat}, q < i → (rng V i)[q * s + o]? = (V q)[o]?
  | 0, h => by omega
  | i + 1, h => by
    show (rng V i ++ V i)[q * s + o]? = _
    rcases Nat.lt_or_ge q i with c | c
    · have hle : (q + 1) * s ≤ i * s := Nat.mul_le_mul_right _ c
      rw [Nat.add_mul, Nat.one_mul] at hle
      rw [List.getElem?_append_left (by rw [rng_len hV]; omega)]
      exact rng_get hV ho c
    · obtain rfl : q = i := by omega
      rw [List.getElem?_append_right (by rw [rng_len hV]; omega), rng_len hV, show q * s + o - q * s = o by omega]
theorem rng_congr {V V' : Nat → List Value} : ∀ {i : Nat}, (∀ k, k < i → V k = V' k) → rng V i = rng V' i
  | 0, _ => rfl
  | i + 1, h => by
    show rng V i ++ V i = rng V' i ++ V' i
    rw [rng_congr (fun k hk => h k (by omega)), h i (by omega)]
theorem rng_set {V : Nat → List Value} {s : Nat} (hV : ∀ k, (V k).length = s) {q o : Nat} (x : Value) (ho : o < s) : ∀ {i : Nat}, q < i → (rng V i).set (q * s + o) x = rng (fun k => if k = q then (V q).set o x else V k) i
  | 0, h => by omega
  | i + 1, h => by
    show (rng V i ++ V i).set (q * s + o) x = rng _ i ++ _
    rcases Nat.lt_or_ge q i with c | c
    · have hle : (q + 1) * s ≤ i * s := Nat.mul_le_mul_right _ c
      rw [Nat.add_mul, Nat.one_mul] at hle
      rw [List.set_append_left _ _ (by rw [rng_len hV]; omega), rng_set hV x ho c]
      have : (if i = q then (V q).set o x else V i) = V i := if_neg (by omega)
      show _ = _ ++ (if i = q then (V q).set o x else V i)
      rw [this]
    · obtain rfl : q = i := by omega
      rw [List.set_append_right _ _ (by rw [rng_len hV]; omega), rng_len hV, show q * s + o - q * s = o by omega]
      simp only [if_true]
      congr 1
      exact rng_congr (fun k hk => by rw [if_neg (by omega)])
/-- An own row stands where its block does. -/
theorem own_to {w w' : World} {base s n : Nat} {e : TypeId} {v : Value} {xs : List Value} (h : w.ownsRow base e s v n xs) (hb : ∀ g, v.ownBlock = some g → w'.heap[g]? = w.heap[g]?) : w'.ownsRow base e s v n xs := by
  refine ⟨h.1, ?_⟩
  rcases h.2 with ⟨e1, e2⟩ | ⟨g, cap, cur, e1, hg, hh, rest⟩
  · exact .inl ⟨e1, e2⟩
  · refine .inr ⟨g, cap, cur, e1, hg, ?_, rest⟩
    rw [hb g (by rw [e1]; rfl)]; exact hh
theorem own_has {w : World} {base s n g : Nat} {e : TypeId} {v : Value} {xs : List Value} (h : w.ownsRow base e s v n xs) (hg : v.ownBlock = some g) : ∃ cs, Has w g cs e := by
  rcases h.2 with ⟨rfl, _⟩ | ⟨g', cap, cur, rfl, _, hh, _⟩
  · cases hg
  · cases hg; exact ⟨cur, hh⟩
theorem own_lt {w : World} {base s n g : Nat} {e : TypeId} {v : Value} {xs : List Value} (h : w.ownsRow base e s v n xs) (hg : v.ownBlock = some g) : g < w.heap.size := by
  obtain ⟨cs, q⟩ := own_has h hg; exact q.lt
theorem own_base {w : World} {base s n g : Nat} {e : TypeId} {v : Value} {xs : List Value} (h : w.ownsRow base e s v n xs) (hg : v.ownBlock = some g) : base ≤ g := by
  rcases h.2 with ⟨rfl, _⟩ | ⟨g', cap, cur, rfl, q, _⟩
  · cases hg
  · cases hg; exact q
/-- Rows of two types lie apart. -/
theorem own_apart {w : World} {base1 base2 s1 s2 n1 n2 : Nat} {e1 e2 : TypeId} {v1 v2 : Value} {xs1 xs2 : List Value} (h1 : w.ownsRow base1 e1 s1 v1 n1 xs1) (h2 : w.ownsRow base2 e2 s2 v2 n2 xs2) (hne : e1 ≠ e2) : v1.ownBlock = none ∨ v1.ownBlock ≠ v2.ownBlock := by
  rcases hg : v1.ownBlock with _ | g
  · exact .inl rfl
  · refine .inr fun q => ?_
    obtain ⟨c1, k1⟩ := own_has h1 hg
    obtain ⟨c2, k2⟩ := own_has h2 q.symm
    exact hne (has_ty k1 k2)
theorem own_not {w : World} {base s n b : Nat} {e T : TypeId} {v : Value} {xs : List Value} {cs : Array Value} (h : w.ownsRow base e s v n xs) (k : Has w b cs T) (hne : e ≠ T) : v.ownBlock ≠ some b := fun hg => by
  obtain ⟨c, q⟩ := own_has h hg
  exact hne (has_ty q k)
theorem own_notMap {w : World} {base s n b : Nat} {e : TypeId} {v : Value} {xs : List Value} (h : w.ownsRow base e s v n xs) (k : MapOk w b) : v.ownBlock ≠ some b := fun hg => by
  obtain ⟨c, q⟩ := own_has h hg
  obtain ⟨es, c', k, _⟩ := k
  rw [show w.heap[b]? = some (.cells c e) from q] at k
  cases k
/-- A cell of an own row written. -/
theorem own_set {w : World} {base s n g c : Nat} {e : TypeId} {xs : List Value} (h : w.ownsRow base e s (.slice (some ⟨g, 0, none⟩) n c) n xs) {j : Nat} (x : Value) (hj : j < n * s) : (w.setCell ⟨g, j, none⟩ x).ownsRow base e s (.slice (some ⟨g, 0, none⟩) n c) n (xs.set j x) := by
  refine ⟨by rw [List.length_set]; exact h.1, ?_⟩
  rcases h.2 with ⟨e1, _⟩ | ⟨g', cap, cur, e1, hg, hh, h1, h2, h3, h4⟩
  · cases e1
  · cases e1
    refine .inr ⟨g, c, cur.setIfInBounds j x, rfl, hg, ?_, h1, h2, by simpa using h3, ?_⟩
    · simp [World.setCell, Array.getElem?_modify, hh]
    · rw [← h4]
      apply List.ext_getElem?
      intro k
      rw [List.getElem?_take, Array.toList_setIfInBounds, List.getElem?_set, List.getElem?_set, List.getElem?_take]
      simp only [List.length_take, Array.length_toList]
      by_cases c1 : k < n * s
      · rw [if_pos c1, if_pos c1]
        by_cases c2 : j = k
        · subst c2
          have : c * s ≤ cur.size := by omega
          have hns : n * s ≤ c * s := Nat.mul_le_mul_right _ h1
          rw [if_pos rfl, if_pos rfl, if_pos (by omega), if_pos (by omega)]
        · rw [if_neg c2, if_neg c2]
      · rw [if_neg c1, if_neg c1]
        by_cases c2 : j = k
        · omega
        · rw [if_neg c2]
def upd {α : Type} (f : Nat → α) (q : Nat) (x : α) : Nat → α := fun k => if k = q then x else f k
theorem upd_same {α : Type} (f : Nat → α) (q : Nat) (x : α) : upd f q x q = x := if_pos rfl
theorem upd_other {α : Type} (f : Nat → α) {q k : Nat} (x : α) (h : k ≠ q) : upd f q x k = f k := if_neg h
/-- An own row: its elements' type and size, its value, how many, its cells. -/
structure RowT where
  T : TypeId
  s : Nat
  v : Value
  n : Nat
  xs : List Value
/-- Own rows, each apart from the others. -/
structure Fam (w : World) (base n : Nat) (f : Nat → RowT) : Prop where
  row : ∀ k, k < n → w.ownsRow base (f k).T (f k).s (f k).v (f k).n (f k).xs
  apart : ∀ j k, j < n → k < n → j ≠ k → (f j).v.ownBlock = none ∨ (f j).v.ownBlock ≠ (f k).v.ownBlock
theorem Fam.to {w w' : World} {base n : Nat} {f : Nat → RowT} (h : Fam w base n f) (hb : ∀ k g, k < n → (f k).v.ownBlock = some g → w'.heap[g]? = w.heap[g]?) : Fam w' base n f :=
  ⟨fun k hk => own_to (h.row k hk) (fun g hg => hb k g hk hg), h.apart⟩
theorem Fam.below {w w' : World} {base n : Nat} {f : Nat → RowT} (h : Fam w base n f) (hb : Below w.heap.size w w') : Fam w' base n f :=
  h.to (fun k g hk hg => hb.block g (own_lt (h.row k hk) hg))
theorem Fam.buts {w w' : World} {S : Nat → Prop} {m base n : Nat} {f : Nat → RowT} (h : Fam w base n f) (hb : ButS S m w w') (hm : m = w.heap.size) (hS : ∀ k g, k < n → (f k).v.ownBlock = some g → ¬ S g) : Fam w' base n f :=
  h.to (fun k g hk hg => hb.block g (hm ▸ own_lt (h.row k hk) hg) (hS k g hk hg))
/-- A row that has been appended to. -/
theorem Fam.app {w w' : World} {base n q : Nat} {f : Nat → RowT} {v' : Value} {n' : Nat} {xs' : List Value} (h : Fam w base n f) (hq : q < n) (h1 : w'.ownsRow base (f q).T (f q).s v' n' xs') (hg : w.grownBy w' (f q).v.ownBlock)
    (hid : v'.ownBlock = (f q).v.ownBlock ∧ w'.heap.size = w.heap.size ∨ v'.ownBlock = some w.heap.size ∧ w.heap.size < w'.heap.size) : Fam w' base n (upd f q ⟨(f q).T, (f q).s, v', n', xs'⟩) := by
  refine ⟨fun k hk => ?_, fun j k hj hk hjk => ?_⟩
  · by_cases c : k = q
    · subst c
      rw [upd_same]
      exact h1
    · rw [upd_other _ _ c]
      exact (h.row k hk).kept hg (h.apart k q hk hq c)
  · have hnew : ∀ k, k < n → k ≠ q → (f k).v.ownBlock = none ∨ (f k).v.ownBlock ≠ v'.ownBlock := fun k hk c => by
      rcases hid with ⟨e, _⟩ | ⟨e, _⟩
      · rw [e]; exact h.apart k q hk hq c
      · rw [e]
        rcases hgk : (f k).v.ownBlock with _ | g
        · exact .inl rfl
        · exact .inr fun e' => by cases e'; exact Nat.lt_irrefl _ (own_lt (h.row k hk) hgk)
    by_cases c1 : j = q
    · subst c1
      rw [upd_same, upd_other _ _ (Ne.symm hjk)]
      show v'.ownBlock = none ∨ v'.ownBlock ≠ _
      rcases hv : v'.ownBlock with _ | g
      · exact .inl rfl
      · rcases hnew k hk (Ne.symm hjk) with e | e
        · exact .inr (by rw [e]; simp)
        · exact .inr (by rw [← hv]; exact Ne.symm e)
    · rw [upd_other _ _ c1]
      by_cases c2 : k = q
      · subst c2; rw [upd_same]; exact hnew j hj c1
      · rw [upd_other _ _ c2]; exact h.apart j k hj hk hjk
/-- A row whose cells have been written in place. -/
theorem Fam.set {w w' : World} {base n q : Nat} {f : Nat → RowT} {xs' : List Value} (h : Fam w base n f) (hq : q < n) (h1 : w'.ownsRow base (f q).T (f q).s (f q).v (f q).n xs') (hb : ∀ g, g < w.heap.size → (f q).v.ownBlock ≠ some g → w'.heap[g]? = w.heap[g]?) : Fam w' base n (upd f q ⟨(f q).T, (f q).s, (f q).v, (f q).n, xs'⟩) := by
  have hv : ∀ k, (upd f q ⟨(f q).T, (f q).s, (f q).v, (f q).n, xs'⟩ k).v = (f k).v := fun k => by
    by_cases c : k = q
    · subst c; rw [upd_same]
    · rw [upd_other _ _ c]
  refine ⟨fun k hk => ?_, fun j k hj hk hjk => by rw [hv, hv]; exact h.apart j k hj hk hjk⟩
  by_cases c : k = q
  · subst c
    rw [upd_same]
    exact h1
  · rw [upd_other _ _ c]
    refine own_to (h.row k hk) (fun g hg => hb g (own_lt (h.row k hk) hg) (fun e => ?_))
    rcases h.apart k q hk hq c with e' | e'
    · rw [hg] at e'; cases e'
    · exact e' (hg.trans e.symm)
/-- One row more, without elements. -/
theorem Fam.more {w : World} {base n : Nat} {f : Nat → RowT} (h : Fam w base n f) (T : TypeId) (s : Nat) : Fam w base (n + 1) (upd f n ⟨T, s, .slice none 0 0, 0, []⟩) := by
  refine ⟨fun k hk => ?_, fun j k hj hk hjk => ?_⟩
  · by_cases c : k = n
    · subst c
      rw [upd_same]
      exact World.ownsRow_nil _ _ _ _
    · rw [upd_other _ _ c]
      exact h.row k (by omega)
  · by_cases c1 : j = n
    · subst c1
      rw [upd_same]; exact .inl rfl
    · rw [upd_other _ _ c1]
      by_cases c2 : k = n
      · subst c2; rw [upd_same]
        rcases hg : (f j).v.ownBlock with _ | g
        · exact .inl rfl
        · exact .inr (by simp [Value.ownBlock])
      · rw [upd_other _ _ c2]; exact h.apart j k (by omega) (by omega) hjk
/-- A block that is not written. -/
theorem buts_bk {S : Nat → Prop} {B : Nat} {w w' : World} (h : ButS S B w w') {b : Nat} (hb : b < B) (hn : ¬ S b) : (∀ o, w'.cell? ⟨b, o, none⟩ = w.cell? ⟨b, o, none⟩) ∧ (∀ o, w'.frozen? ⟨b, o, none⟩ = w.frozen? ⟨b, o, none⟩) :=
  ⟨fun o => World.cell?_of_block (w := w) (h.block b hb hn), fun o => World.frozen?_of_block (w := w) (h.block b hb hn)⟩
theorem Fam.none {w : World} {base : Nat} {f : Nat → RowT} : Fam w base 0 f := ⟨fun k h => by omega, fun j k h => by omega⟩
theorem buts_grown {w w' : World} {row : Option Nat} (h : w.grownBy w' row) : ButS (fun b => row = some b) w.heap.size w w' := ⟨h.os, h.tape, h.output, h.size, fun k hk q => h.block k hk (fun e => q e.symm)⟩
theorem NodeOk.re {w w' : World} {F F' : Nat → Prop} {v : Value} {par : Int} {ks : List Int} (h : NodeOk w F v par ks) (hs : w.heap.size ≤ w'.heap.size) (hb : ∀ b, b < w.heap.size → F b → w'.heap[b]? = w.heap[b]?) (hF : ∀ b, b < w.heap.size → F b → F' b) : NodeOk w' F' v par ks := by
  obtain ⟨a, c, h1, h2, h3, h4⟩ := h
  refine ⟨a, c, h1, h2, fun h0 => ?_, fun h0 b off e => ?_⟩
  · obtain ⟨b, off, e, hl, hc⟩ := h3 h0
    refine ⟨b, off, e, Nat.lt_of_lt_of_le hl hs, fun i hi => ?_⟩
    rw [← hc i hi]
    exact World.cell?_of_block (w := w) (hb b hl (h4 h0 b off e))
  · obtain ⟨b', off', e', hl, _⟩ := h3 h0
    rw [e] at e'
    cases e'
    exact hF b hl (h4 h0 b off e)
theorem Forest.re {w w' : World} {F F' : Nat → Prop} {L : List (Int × Value)} {R S : Rows} (h : Forest w F L R S) (hs : w.heap.size ≤ w'.heap.size) (hb : ∀ b, b < w.heap.size → F b → w'.heap[b]? = w.heap[b]?) (hF : ∀ b, b < w.heap.size → F b → F' b) : Forest w' F' L R S := by
  refine ⟨fun A n d C e => ?_, fun A n d C e => ?_, h.miss, h.len⟩
  · obtain ⟨v, h1, h2⟩ := h.main A n d C e
    exact ⟨v, h1, h2.re hs hb hF⟩
  · obtain ⟨v, par, h1, h2, h3⟩ := h.det A n d C e
    exact ⟨v, par, h1, h2.re hs hb hF, h3⟩
/-- A tree where blocks that are not its own are written, and where it may lie in fewer. -/
theorem TreeAt.re {w w' : World} {p bm : Nat} {F F' : Nat → Prop} {R : Rows} {next : Int} (h : TreeAt w p bm F R next) (hs : w.heap.size ≤ w'.heap.size) (hb : ∀ b, b < w.heap.size → F b ∨ b = p ∨ b = bm → w'.heap[b]? = w.heap[b]?) (hF : ∀ b, b < w.heap.size → F b → F' b) (hn : ∀ b, w'.heap.size ≤ b → F' b) : TreeAt w' p bm F' R next := by
  have h1 := hb p h.str.lt (.inr (.inl rfl))
  have h2 := hb bm h.ok.lt (.inr (.inr rfl))
  refine ⟨h1.trans h.str, mapOk_eq h2 h.ok, h.ne, hn, hn, h.wf, ?_⟩
  rw [mapOf_eq h2]
  exact h.fo.re hs (fun b hl hF => hb b hl (.inl hF.1)) (fun b hl q => ⟨hF b hl q.1, q.2⟩)
/-- A tree; O: the blocks of its maker's own, that are none of the tree's. -/
structure TK (w : World) (p bm base : Nat) (O : Nat → Prop) (R : Rows) (next : Int) : Prop where
  tree : TreeAt w p bm (fun b => base ≤ b ∧ ¬ O b) R next
  np : ¬ O p
  nbm : ¬ O bm
/-- .. and those made since. -/
def plusN (O : Nat → Prop) (w w' : World) : Nat → Prop := fun b => O b ∨ (w.heap.size ≤ b ∧ b < w'.heap.size)
/-- The maker writes in blocks of its own, or makes some. -/
theorem TK.write {w w' : World} {p bm base : Nat} {O S : Nat → Prop} {R : Rows} {next : Int} (h : TK w p bm base O R next) (hb : ButS S w.heap.size w w') (hS : ∀ b, b < w.heap.size → S b → O b) : TK w' p bm base (plusN O w w') R next := by
  have hbase : base ≤ w.heap.size := (h.tree.hp w.heap.size (Nat.le_refl _)).1
  refine ⟨h.tree.re hb.size (fun b hl q => hb.block b hl (fun s => ?_)) (fun b hl q => ⟨q.1, fun o => ?_⟩) (fun b q => ⟨Nat.le_trans hbase (Nat.le_trans hb.size q), fun o => ?_⟩), fun o => ?_, fun o => ?_⟩
  · have o := hS b hl s
    rcases q with q | rfl | rfl
    · exact q.2 o
    · exact h.np o
    · exact h.nbm o
  · rcases o with o | o
    · exact q.2 o
    · omega
  · rcases o with o | o
    · exact (h.tree.hp b (Nat.le_trans hb.size q)).2 o
    · omega
  · rcases o with o | o
    · exact h.np o
    · have := h.tree.str.lt; omega
  · rcases o with o | o
    · exact h.nbm o
    · have := h.tree.ok.lt; omega
theorem TK.mine {w w' : World} {p bm base : Nat} {O : Nat → Prop} {R : Rows} {next : Int} (h : TK w p bm base O R next) (hb : Below w.heap.size w w') : TK w' p bm base (plusN O w w') R next :=
  h.write (S := fun _ => False) (.of hb) (fun _ _ q => q.elim)
theorem TK.below {w w' : World} {p bm base : Nat} {O : Nat → Prop} {R : Rows} {next : Int} (h : TK w p bm base O R next) (hb : Below w.heap.size w w') : TK w' p bm base O R next := ⟨h.tree.below hb, h.np, h.nbm⟩
end Go.Proofs.Ytjcbphhemmdnjaa
namespace Go.Proofs.Ytjcbphhemmdnjaa
open Go Go.RowKit
set_option linter.unusedSimpArgs false
set_option linter.unusedVariables false

structure BlkT where
  b : Nat
  cs : Array Value
  T : TypeId
structure MapT where
  b : Nat
  g : Int → Option Value
structure Wd (w0 w : World) (pt bm : Nat) (R : Rows) (next : Int) (n : Nat) (f : Nat → RowT) (m : Nat) (B : Nat → BlkT) (k : Nat) (M : Nat → MapT) (O : Nat → Prop) : Prop where
  tk : TK w pt bm w0.heap.size O R next
  tp : w0.heap.size ≤ pt
  tm : w0.heap.size ≤ bm
  fam : Fam w w0.heap.size n f
  fo : ∀ q g, q < n → (f q).v.ownBlock = some g → O g
  has : ∀ q, q < m → Has w (B q).b (B q).cs (B q).T
  bo : ∀ q, q < m → O (B q).b
  bl : ∀ q, q < m → w0.heap.size ≤ (B q).b
  bne : ∀ q r, q < m → r < m → q ≠ r → (B q).b ≠ (B r).b
  bap : ∀ q r, q < m → r < n → (f r).v.ownBlock ≠ some (B q).b
  mok : ∀ q, q < k → MapOk w (M q).b
  mlk : ∀ q, q < k → ∀ x, mlook (mapOf w (M q).b) x = (M q).g x
  mo : ∀ q, q < k → O (M q).b
  ml : ∀ q, q < k → w0.heap.size ≤ (M q).b
  mne : ∀ q r, q < k → r < k → q ≠ r → (M q).b ≠ (M r).b
  bel : Below w0.heap.size w0 w
section
variable {w0 w w' : World} {pt bm n m k : Nat} {R : Rows} {next : Int} {f : Nat → RowT} {B : Nat → BlkT} {M : Nat → MapT} {O : Nat → Prop}
theorem has_notMap {w : World} {b : Nat} {cs : Array Value} {T : TypeId} (h : Has w b cs T) (k : MapOk w b) : False := by
  obtain ⟨es, c, k, _⟩ := k
  rw [show w.heap[b]? = some (.cells cs T) from h] at k
  cases k
theorem below_but {S : Nat → Prop} {n m : Nat} {w0 w w' : World} (h : Below n w0 w) (hb : ButS S m w w') (hm : m = w.heap.size) (hn : n ≤ w.heap.size) (hS : ∀ b, S b → n ≤ b) : Below n w0 w' := by
  subst hm
  exact h.trans ((hb.less (C := n) hn).below (fun k hk s => by have := hS k s; omega))
theorem Wd.size (h : Wd w0 w pt bm R next n f m B k M O) : w0.heap.size ≤ w.heap.size := h.bel.size
/-- Memory is made, and nothing written. -/
theorem Wd.below (h : Wd w0 w pt bm R next n f m B k M O) (hb : Below w.heap.size w w') : Wd w0 w' pt bm R next n f m B k M (plusN O w w') :=
  ⟨h.tk.mine hb, h.tp, h.tm, h.fam.below hb, fun q g hq e => .inl (h.fo q g hq e), fun q hq => has_below hb (h.has q hq), fun q hq => .inl (h.bo q hq), h.bl, h.bne, h.bap, fun q hq => mapOk_eq (hb.block _ (h.mok q hq).lt) (h.mok q hq),
    fun q hq x => by rw [mapOf_eq (hb.block _ (h.mok q hq).lt)]; exact h.mlk q hq x, fun q hq => .inl (h.mo q hq), h.ml, h.mne, h.bel.trans (hb.mono h.size)⟩
/-- A row is appended to. -/
theorem Wd.app (h : Wd w0 w pt bm R next n f m B k M O) {q : Nat} (hq : q < n) {v' : Value} {n' : Nat} {xs' : List Value} (h1 : w'.ownsRow w0.heap.size (f q).T (f q).s v' n' xs') (hg : w.grownBy w' (f q).v.ownBlock)
    (hid : v'.ownBlock = (f q).v.ownBlock ∧ w'.heap.size = w.heap.size ∨ v'.ownBlock = some w.heap.size ∧ w.heap.size < w'.heap.size) : Wd w0 w' pt bm R next n (upd f q ⟨(f q).T, (f q).s, v', n', xs'⟩) m B k M (plusN O w w') := by
  have hb := buts_grown hg
  have hS : ∀ b, b < w.heap.size → (f q).v.ownBlock = some b → O b := fun b _ e => h.fo q b hq e
  have hT : ∀ r, (upd f q ⟨(f q).T, (f q).s, v', n', xs'⟩ r).T = (f r).T := fun r => by
    by_cases c : r = q
    · subst c; rw [upd_same]
    · rw [upd_other _ _ c]
  have hm : ∀ r, r < k → w'.heap[(M r).b]? = w.heap[(M r).b]? := fun r hr => hb.block _ (h.mok r hr).lt (fun e => own_notMap (h.fam.row q hq) (h.mok r hr) e)
  refine ⟨h.tk.write hb hS, h.tp, h.tm, h.fam.app hq h1 hg hid, fun r g hr e => ?_, fun r hr => hb.has (h.has r hr) (h.has r hr).lt (fun e => h.bap r q hr hq e), fun r hr => .inl (h.bo r hr), h.bl, h.bne, fun r s hr hs => ?_,
    fun r hr => mapOk_eq (hm r hr) (h.mok r hr), fun r hr x => by rw [mapOf_eq (hm r hr)]; exact h.mlk r hr x, fun r hr => .inl (h.mo r hr), h.ml, h.mne, below_but h.bel hb rfl h.size (fun b e => own_base (h.fam.row q hq) e)⟩
  rotate_left
  · by_cases c : s = q
    · subst c
      rw [upd_same]
      rcases hid with ⟨e1, _⟩ | ⟨e1, _⟩
      · exact fun e => h.bap r s hr hs (e1.symm.trans e)
      · intro e
        have hl := (h.has r hr).lt
        have e3 := Option.some.inj (e1.symm.trans e)
        omega
    · rw [upd_other _ _ c]; exact h.bap r s hr hs
  by_cases c : r = q
  · subst c
    rw [upd_same] at e
    rcases hid with ⟨e1, _⟩ | ⟨e1, e2⟩
    · exact .inl (h.fo r g hq (e1.symm.trans e))
    · have : g = w.heap.size := by have := e1.symm.trans e; cases this; rfl
      exact .inr ⟨by omega, by omega⟩
  · rw [upd_other _ _ c] at e
    exact .inl (h.fo r g hr e)
/-- A cell of a row is written. -/
theorem Wd.set (h : Wd w0 w pt bm R next n f m B k M O) {q g : Nat} (hq : q < n) {c j : Nat} (hv : (f q).v = .slice (some ⟨g, 0, none⟩) (f q).n c) (hj : j < (f q).n * (f q).s) (x : Value) : Wd w0 (w.setCell ⟨g, j, none⟩ x) pt bm R next n (upd f q ⟨(f q).T, (f q).s, (f q).v, (f q).n, (f q).xs.set j x⟩) m B k M (plusN O w (w.setCell ⟨g, j, none⟩ x)) := by
  have hgl : g < w.heap.size := own_lt (h.fam.row q hq) (by rw [hv]; rfl)
  have hb : ButS (fun b => b = g) w.heap.size w (w.setCell ⟨g, j, none⟩ x) := (ButS.refl _ _ _).setCell (.inr rfl)
  have hS : ∀ b, b < w.heap.size → b = g → O b := fun b _ e => h.fo q b hq (by rw [hv, e]; rfl)
  have hrow := h.fam.row q hq
  have hT : ∀ r, (upd f q ⟨(f q).T, (f q).s, (f q).v, (f q).n, (f q).xs.set j x⟩ r).T = (f r).T := fun r => by
    by_cases c : r = q
    · subst c; rw [upd_same]
    · rw [upd_other _ _ c]
  have hV : ∀ r, (upd f q ⟨(f q).T, (f q).s, (f q).v, (f q).n, (f q).xs.set j x⟩ r).v = (f r).v := fun r => by
    by_cases c : r = q
    · subst c; rw [upd_same]
    · rw [upd_other _ _ c]
  have hm : ∀ r, r < k → (w.setCell ⟨g, j, none⟩ x).heap[(M r).b]? = w.heap[(M r).b]? := fun r hr => hb.block _ (h.mok r hr).lt (fun e => own_notMap hrow (h.mok r hr) (by rw [hv, ← e]; rfl))
  refine ⟨h.tk.write hb hS, h.tp, h.tm, h.fam.set hq ?_ (fun g' hl hne => hb.block g' hl (fun e => hne (by rw [hv, e]; rfl))), fun r g' hr e => by rw [hV] at e; exact .inl (h.fo r g' hr e), fun r hr => hb.has (h.has r hr) (h.has r hr).lt (fun e => h.bap r q hr hq (by rw [hv, ← e]; rfl)), fun r hr => .inl (h.bo r hr), h.bl, h.bne, fun r s hr hs => by rw [hV]; exact h.bap r s hr hs,
    fun r hr => mapOk_eq (hm r hr) (h.mok r hr), fun r hr x => by rw [mapOf_eq (hm r hr)]; exact h.mlk r hr x, fun r hr => .inl (h.mo r hr), h.ml, h.mne, below_but h.bel hb rfl h.size (fun b e => own_base hrow (by rw [hv, e]; rfl))⟩
  rw [hv] at hrow ⊢
  exact own_set hrow x hj
/-- A block is written. -/
theorem Wd.st (h : Wd w0 w pt bm R next n f m B k M O) {q : Nat} (hq : q < m) (cs : Array Value) : Wd w0 (ov w (B q).b cs (B q).T) pt bm R next n f m (upd B q ⟨(B q).b, cs, (B q).T⟩) k M (plusN O w (ov w (B q).b cs (B q).T)) := by
  have hb : ButS (fun b => b = (B q).b) w.heap.size w (ov w (B q).b cs (B q).T) := (ButS.refl (fun b => b = (B q).b) w.heap.size w).ovs (.inr rfl) _ _
  have hS : ∀ b, b < w.heap.size → b = (B q).b → O b := fun b _ e => by rw [e]; exact h.bo q hq
  have hBb : ∀ r, (upd B q ⟨(B q).b, cs, (B q).T⟩ r).b = (B r).b := fun r => by
    by_cases c : r = q
    · subst c; rw [upd_same]
    · rw [upd_other _ _ c]
  have hBT : ∀ r, (upd B q ⟨(B q).b, cs, (B q).T⟩ r).T = (B r).T := fun r => by
    by_cases c : r = q
    · subst c; rw [upd_same]
    · rw [upd_other _ _ c]
  have hm : ∀ r, r < k → (ov w (B q).b cs (B q).T).heap[(M r).b]? = w.heap[(M r).b]? := fun r hr => hb.block _ (h.mok r hr).lt (fun e => has_notMap (h.has q hq) (e ▸ h.mok r hr))
  refine ⟨h.tk.write hb hS, h.tp, h.tm, h.fam.buts hb rfl (fun r g hr e e2 => h.bap q r hq hr (e.trans (by rw [e2]))), fun r g hr e => .inl (h.fo r g hr e), fun r hr => ?_, fun r hr => by rw [hBb]; exact .inl (h.bo r hr), fun r hr => by rw [hBb]; exact h.bl r hr, fun r s hr hs hrs => by rw [hBb, hBb]; exact h.bne r s hr hs hrs, fun r s hr hs => by rw [hBb]; exact h.bap r s hr hs,
    fun r hr => mapOk_eq (hm r hr) (h.mok r hr), fun r hr x => by rw [mapOf_eq (hm r hr)]; exact h.mlk r hr x, fun r hr => .inl (h.mo r hr), h.ml, h.mne, below_but h.bel hb rfl h.size (fun b e => by rw [e]; exact h.bl q hq)⟩
  by_cases c : r = q
  · subst c
    rw [upd_same]
    exact has_ov_same (h.has r hr).lt
  · rw [upd_other _ _ c]
    exact has_ov_other (h.bne r q hr hq c) (h.has r hr)
/-- A map is written. -/
theorem Wd.put (h : Wd w0 w pt bm R next n f m B k M O) {q : Nat} (hq : q < k) (x : Int) (v : Value) : Wd w0 (putM w (M q).b x v) pt bm R next n f m B k (upd M q ⟨(M q).b, fun y => if y = x then some v else (M q).g y⟩) (plusN O w (putM w (M q).b x v)) := by
  have hb : ButS (fun b => b = (M q).b) w.heap.size w (putM w (M q).b x v) := (ButS.refl _ _ _).put (.inr rfl)
  have hS : ∀ b, b < w.heap.size → b = (M q).b → O b := fun b _ e => by rw [e]; exact h.mo q hq
  have hMb : ∀ r, (upd M q ⟨(M q).b, fun y => if y = x then some v else (M q).g y⟩ r).b = (M r).b := fun r => by
    by_cases c : r = q
    · subst c; rw [upd_same]
    · rw [upd_other _ _ c]
  refine ⟨h.tk.write hb hS, h.tp, h.tm, h.fam.buts hb rfl (fun r g hr e e2 => own_notMap (h.fam.row r hr) (h.mok q hq) (e.trans (by rw [e2]))), fun r g hr e => .inl (h.fo r g hr e), fun r hr => hb.has (h.has r hr) (h.has r hr).lt (fun e => has_notMap (h.has r hr) (e ▸ h.mok q hq)), fun r hr => .inl (h.bo r hr), h.bl, h.bne, h.bap,
    fun r hr => ?_, fun r hr y => ?_, fun r hr => by rw [hMb]; exact .inl (h.mo r hr), fun r hr => by rw [hMb]; exact h.ml r hr, fun r s hr hs hrs => by rw [hMb, hMb]; exact h.mne r s hr hs hrs, below_but h.bel hb rfl h.size (fun b e => by rw [e]; exact h.ml q hq)⟩
  · by_cases c : r = q
    · subst c; rw [upd_same]; exact mapOk_put_same (h.mok r hr)
    · rw [upd_other _ _ c]; exact mapOk_put_other (h.mne r q hr hq c) (h.mok r hr)
  · by_cases c : r = q
    · subst c
      rw [upd_same]
      show mlook (mapOf (putM w (M r).b x v) (M r).b) y = _
      rw [mapOf_put_same (h.mok r hr), mlook_put, h.mlk r hr]
    · rw [upd_other _ _ c, mapOf_put_other (h.mne r q hr hq c)]
      exact h.mlk r hr y
/-- The tree's own step. -/
theorem Wd.add (h : Wd w0 w pt bm R next n f m B k M O) {R' : Rows} {next' : Int} (ht : TreeAt w' pt bm (fun b => w0.heap.size ≤ b ∧ ¬ O b) R' next') (hb : ButS (fun b => b = pt ∨ b = bm) w.heap.size w w') : Wd w0 w' pt bm R' next' n f m B k M O := by
  have hO : ∀ b, O b → ¬ (b = pt ∨ b = bm) := fun b o e => by
    rcases e with rfl | rfl
    · exact h.tk.np o
    · exact h.tk.nbm o
  have hm : ∀ r, r < k → w'.heap[(M r).b]? = w.heap[(M r).b]? := fun r hr => hb.block _ (h.mok r hr).lt (hO _ (h.mo r hr))
  exact ⟨⟨ht, h.tk.np, h.tk.nbm⟩, h.tp, h.tm, h.fam.buts hb rfl (fun r g hr e => hO g (h.fo r g hr e)), h.fo, fun r hr => hb.has (h.has r hr) (h.has r hr).lt (hO _ (h.bo r hr)), h.bo, h.bl, h.bne, h.bap,
    fun r hr => mapOk_eq (hm r hr) (h.mok r hr), fun r hr x => by rw [mapOf_eq (hm r hr)]; exact h.mlk r hr x, h.mo, h.ml, h.mne, below_but h.bel hb rfl h.size (fun b e => by rcases e with rfl | rfl; exact h.tp; exact h.tm)⟩
/-- One row more. -/
theorem Wd.row (h : Wd w0 w pt bm R next n f m B k M O) (T : TypeId) (s : Nat) : Wd w0 w pt bm R next (n + 1) (upd f n ⟨T, s, .slice none 0 0, 0, []⟩) m B k M O := by
  refine ⟨h.tk, h.tp, h.tm, h.fam.more T s, fun q g hq e => ?_, h.has, h.bo, h.bl, h.bne, fun q r hq hr => ?_, h.mok, h.mlk, h.mo, h.ml, h.mne, h.bel⟩
  · by_cases c : q = n
    · subst c; rw [upd_same] at e; cases e
    · rw [upd_other _ _ c] at e; exact h.fo q g (by omega) e
  · by_cases c : r = n
    · subst c; rw [upd_same]; intro e; cases e
    · rw [upd_other _ _ c]; exact h.bap q r hq (by omega)
/-- A block just made. -/
theorem Wd.alloc (h : Wd w0 w pt bm R next n f m B k M O) (cs : Array Value) (T : TypeId) : Wd w0 (w.alloc (.cells cs T)) pt bm R next n f (m + 1) (upd B m ⟨w.heap.size, cs, T⟩) k M (plusN O w (w.alloc (.cells cs T))) := by
  have hb : Below w.heap.size w (w.alloc (.cells cs T)) := (Below.refl _ _).alloc (Nat.le_refl _) _
  have h' := h.below hb
  have hlt : ∀ q, q < m → (B q).b < w.heap.size := fun q hq => (h.has q hq).lt
  refine ⟨h'.tk, h.tp, h.tm, h'.fam, h'.fo, fun q hq => ?_, fun q hq => ?_, fun q hq => ?_, fun q r hq hr hqr => ?_, fun q r hq hr => ?_, h'.mok, h'.mlk, h'.mo, h.ml, h.mne, h'.bel⟩
  · by_cases c : q = m
    · subst c; rw [upd_same]; exact has_new rfl
    · rw [upd_other _ _ c]; exact h'.has q (by omega)
  · by_cases c : q = m
    · subst c; rw [upd_same]; exact .inr ⟨Nat.le_refl _, by simp⟩
    · rw [upd_other _ _ c]; exact h'.bo q (by omega)
  · by_cases c : q = m
    · subst c; rw [upd_same]; exact h.size
    · rw [upd_other _ _ c]; exact h.bl q (by omega)
  · by_cases c : q = m
    · subst c
      rw [upd_same, upd_other _ _ (Ne.symm hqr)]
      exact Ne.symm (Nat.ne_of_lt (hlt r (by omega)))
    · rw [upd_other _ _ c]
      by_cases c2 : r = m
      · subst c2; rw [upd_same]; exact Nat.ne_of_lt (hlt q (by omega))
      · rw [upd_other _ _ c2]; exact h.bne q r (by omega) (by omega) hqr
  · by_cases c : q = m
    · subst c; rw [upd_same]; intro e; have := own_lt (h.fam.row r hr) e; simp only at this; omega
    · rw [upd_other _ _ c]; exact h.bap q r (by omega) hr
/-- A map just made. -/
theorem Wd.newMap (h : Wd w0 w pt bm R next n f m B k M O) : Wd w0 (w.alloc (.map #[] 0)) pt bm R next n f m B (k + 1) (upd M k ⟨w.heap.size, fun _ => none⟩) (plusN O w (w.alloc (.map #[] 0))) := by
  have hb : Below w.heap.size w (w.alloc (.map #[] 0)) := (Below.refl _ _).alloc (Nat.le_refl _) _
  have h' := h.below hb
  have hlt : ∀ q, q < k → (M q).b < w.heap.size := fun q hq => (h.mok q hq).lt
  refine ⟨h'.tk, h.tp, h.tm, h'.fam, h'.fo, h'.has, h'.bo, h.bl, h.bne, h.bap, fun q hq => ?_, fun q hq x => ?_, fun q hq => ?_, fun q hq => ?_, fun q r hq hr hqr => ?_, h'.bel⟩
  · by_cases c : q = k
    · subst c; rw [upd_same]; exact mapOk_new rfl
    · rw [upd_other _ _ c]; exact h'.mok q (by omega)
  · by_cases c : q = k
    · subst c; rw [upd_same]
      show mlook (mapOf (w.alloc (.map #[] 0)) w.heap.size) x = none
      rw [mapOf_new rfl]; rfl
    · rw [upd_other _ _ c]; exact h'.mlk q (by omega) x
  · by_cases c : q = k
    · subst c; rw [upd_same]; exact .inr ⟨Nat.le_refl _, by simp⟩
    · rw [upd_other _ _ c]; exact h'.mo q (by omega)
  · by_cases c : q = k
    · subst c; rw [upd_same]; exact h.size
    · rw [upd_other _ _ c]; exact h.ml q (by omega)
  · by_cases c : q = k
    · subst c
      rw [upd_same, upd_other _ _ (Ne.symm hqr)]
      exact Ne.symm (Nat.ne_of_lt (hlt r (by omega)))
    · rw [upd_other _ _ c]
      by_cases c2 : r = k
      · subst c2; rw [upd_same]; exact Nat.ne_of_lt (hlt q (by omega))
      · rw [upd_other _ _ c2]; exact h.mne q r (by omega) (by omega) hqr
/-- The blocks told anew (fewer, or others that were told before). -/
theorem Wd.blks (h : Wd w0 w pt bm R next n f m B k M O) {m' : Nat} {B' : Nat → BlkT} (e : ∀ q, q < m' → B' q = B q) (hm : m' ≤ m) : Wd w0 w pt bm R next n f m' B' k M O :=
  ⟨h.tk, h.tp, h.tm, h.fam, h.fo, fun q hq => by rw [e q hq]; exact h.has q (by omega), fun q hq => by rw [e q hq]; exact h.bo q (by omega), fun q hq => by rw [e q hq]; exact h.bl q (by omega), fun q r hq hr hqr => by rw [e q hq, e r hr]; exact h.bne q r (by omega) (by omega) hqr, fun q r hq hr => by rw [e q hq]; exact h.bap q r (by omega) hr, h.mok, h.mlk, h.mo, h.ml, h.mne, h.bel⟩
/-- The rows told anew. -/
theorem Wd.rows (h : Wd w0 w pt bm R next n f m B k M O) {f' : Nat → RowT} (e : ∀ q, q < n → f' q = f q) : Wd w0 w pt bm R next n f' m B k M O :=
  ⟨h.tk, h.tp, h.tm, ⟨fun q hq => by rw [e q hq]; exact h.fam.row q hq, fun q r hq hr hqr => by rw [e q hq, e r hr]; exact h.fam.apart q r hq hr hqr⟩, fun q g hq => by rw [e q hq]; exact h.fo q g hq, h.has, h.bo, h.bl, h.bne, fun q r hq hr => by rw [e r hr]; exact h.bap q r hq hr, h.mok, h.mlk, h.mo, h.ml, h.mne, h.bel⟩
/-- The maps told anew. -/
theorem Wd.maps (h : Wd w0 w pt bm R next n f m B k M O) {M' : Nat → MapT} (e : ∀ q, q < k → (M' q).b = (M q).b ∧ ∀ x, (M' q).g x = (M q).g x) : Wd w0 w pt bm R next n f m B k M' O :=
  ⟨h.tk, h.tp, h.tm, h.fam, h.fo, h.has, h.bo, h.bl, h.bne, h.bap, fun q hq => by rw [(e q hq).1]; exact h.mok q hq, fun q hq x => by rw [(e q hq).1, (e q hq).2]; exact h.mlk q hq x, fun q hq => by rw [(e q hq).1]; exact h.mo q hq, fun q hq => by rw [(e q hq).1]; exact h.ml q hq, fun q r hq hr hqr => by rw [(e q hq).1, (e r hr).1]; exact h.mne q r hq hr hqr, h.bel⟩
/-- The beginning: a tree just made. -/
theorem Wd.begin {w0 w : World} {pt bm : Nat} {base : Nat} (hbase : base = w0.heap.size) (ht : TreeAt w pt bm (fun b => base ≤ b) [(0, 0)] 1) (h1 : w0.heap.size ≤ pt) (h2 : w0.heap.size ≤ bm) (hb : Below w0.heap.size w0 w) (f : Nat → RowT) (B : Nat → BlkT) (M : Nat → MapT) : Wd w0 w pt bm [(0, 0)] 1 0 f 0 B 0 M (fun _ => False) := by
  subst hbase
  refine ⟨⟨⟨ht.str, ht.ok, ht.ne, fun b q => ⟨ht.hp b q, id⟩, fun b q => ⟨ht.hp b q, id⟩, ht.wf, ht.fo.more (fun b q => ⟨⟨q.1, id⟩, q.2⟩)⟩, id, id⟩, h1, h2, Fam.none, fun q g h => by omega, fun q h => by omega, fun q h => by omega, fun q h => by omega, fun q r h => by omega, fun q r h => by omega, fun q h => by omega, fun q h => by omega, fun q h => by omega, fun q h => by omega, fun q r h => by omega, hb⟩
/-- .. with a block of the maker's made ahead of it. -/
theorem Wd.begin2 {w0 w : World} {pt bm base : Nat} {cs : Array Value} {T : TypeId} (ht : TreeAt w pt bm (fun b => base ≤ b) [(0, 0)] 1) (hbase : base = w0.heap.size + 1) (hp : Has w w0.heap.size cs T) (h1 : w0.heap.size + 1 ≤ pt) (h2 : w0.heap.size + 1 ≤ bm) (hb : Below w0.heap.size w0 w) (f : Nat → RowT) (M : Nat → MapT) : Wd w0 w pt bm [(0, 0)] 1 0 f 1 (fun _ => ⟨w0.heap.size, cs, T⟩) 0 M (fun b => b = w0.heap.size) := by
  subst hbase
  have hsz : w0.heap.size + 1 ≤ w.heap.size := hp.lt
  refine ⟨⟨⟨ht.str, ht.ok, ht.ne, fun b q => ⟨by omega, by omega⟩, fun b q => ⟨by omega, by omega⟩, ht.wf, ht.fo.more (fun b q => ⟨⟨by have := q.1; omega, by have := q.1; omega⟩, q.2⟩)⟩, by omega, by omega⟩, by omega, by omega, Fam.none, fun q g h => by omega, fun q _ => hp, fun q _ => rfl, fun q _ => Nat.le_refl _, fun q r hq hr hqr => by omega, fun q r _ h => by omega, fun q h => by omega, fun q h => by omega, fun q h => by omega, fun q h => by omega, fun q r h => by omega, hb⟩
end
end Go.Proofs.Ytjcbphhemmdnjaa
