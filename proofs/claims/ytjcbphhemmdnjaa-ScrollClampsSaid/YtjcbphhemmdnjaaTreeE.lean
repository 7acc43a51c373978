/- slices.Insert at []int by the kit's contract. -/
import Derived.Test.YtjcbphhemmdnjaaTreeD
import Derived.Shelf.Spec.SlicesInsert
import Derived.Shelf.Spec.SlicesInsertGrow
namespace Go.Proofs.Ytjcbphhemmdnjaa
open Go.RowKit Go.Shelf
set_option linter.unusedSimpArgs false
set_option linter.unusedVariables false

/-- The library's numbers here. -/
def rhoI : Ren := ⟨fun n => if n = 21 then 74 else if n = 27 then 89 else if n = 28 then 90 else if n = 35 then 96 else if n = 39 then 44 else 0, fun t => if t = 3 then 3 else if t = 4 then 4 else if t = 22 then 54 else t, fun g => g⟩
set_option maxRecDepth 1000000 in
theorem laysI : Lays2.n21 Try.prog rhoI where
  mixed := by kernel_rfl
  f21 := by kernel_rfl
  f27 := by kernel_rfl
  f28 := by kernel_rfl
  f35 := by kernel_rfl
  f39 := by kernel_rfl
  t0 := by kernel_rfl
  a0 := fun w => by kernel_rfl
  z0 := fun w => by kernel_rfl
  v0 := fun w => by kernel_rfl
  t3 := by kernel_rfl
  a3 := fun w => by kernel_rfl
  z3 := fun w => by kernel_rfl
  v3 := fun w => by kernel_rfl
  t4 := by kernel_rfl
  a4 := fun w => by kernel_rfl
  z4 := fun w => by kernel_rfl
  v4 := fun w => by kernel_rfl
  t22 := by kernel_rfl
  a22 := fun w => by kernel_rfl
  z22 := fun w => by kernel_rfl
  v22 := fun w => by kernel_rfl
  i3 := by kernel_rfl
/-- A number put in. -/
def insL (i : Nat) (x : Int) (xs : List Int) : List Int := xs.take i ++ x :: xs.drop i
theorem insL_length {i : Nat} {x : Int} {xs : List Int} (h : i ≤ xs.length) : (insL i x xs).length = xs.length + 1 := by simp [insL]; omega
theorem insL_get {i j : Nat} {x : Int} {xs : List Int} (h : i ≤ xs.length) : (insL i x xs).getD j 0 = if j < i then xs.getD j 0 else if j = i then x else xs.getD (j - 1) 0 := by
  unfold insL
  have hl : (xs.take i).length = i := by rw [List.length_take]; omega
  simp only [List.getD_eq_getElem?_getD]
  by_cases c1 : j < i
  · rw [if_pos c1, List.getElem?_append_left (by omega), List.getElem?_take_of_lt c1]
  · rw [if_neg c1, List.getElem?_append_right (by omega), hl]
    by_cases c2 : j = i
    · rw [if_pos c2, c2, Nat.sub_self]; rfl
    · rw [if_neg c2]
      obtain ⟨m, hm⟩ : ∃ m, j - i = m + 1 := ⟨j - i - 1, by omega⟩
      rw [hm, List.getElem?_cons_succ, List.getElem?_drop, show i + m = j - 1 by omega]
theorem buts_setCells {S : Nat → Prop} {B g : Nat} {w : World} (hb : B ≤ g ∨ S g) : ∀ (vs : List Value) (o : Nat) (v : World), ButS S B w v → ButS S B w (v.setCells g o vs)
  | [], _, _, h => h
  | x :: vs, o, v, h => buts_setCells hb vs (o + 1) _ (h.setCell hb)
theorem size_setCells (g : Nat) : ∀ (vs : List Value) (o : Nat) (v : World), (v.setCells g o vs).heap.size = v.heap.size
  | [], _, _ => rfl
  | x :: vs, o, v => by rw [World.setCells, size_setCells g vs, World.size_setCell]
theorem drew_cell (w : World) (a : Addr) : w.drew.cell? a = w.cell? a := rfl
set_option maxRecDepth 100000 in
theorem insert_row (base : Nat) (a : Option Addr) (k c i vb : Nat) (x : Int) (xs : List Int) (w : World) (hm : k ≤ 1000000) (hi : i ≤ k) (hown : w.ownsRow base 3 1 (.slice a k c) k (intVals xs)) (hv : Has w vb #[.int .i64 x] 3) (hav : ∀ b off, a = some ⟨b, off, none⟩ → b ≠ vb) (hbase : base ≤ w.heap.size) :
    Calls Try.prog 74 #[.slice a k c, .int .i64 (i : Int), .slice (some ⟨vb, 0, none⟩) 1 1] w fun e w' => ∃ a' c', e = .returned (.slice a' (insL i x xs).length c') ∧ (insL i x xs).length ≤ c' ∧ IntsAt w' a' (insL i x xs) ∧ (∀ b off, a' = some ⟨b, off, none⟩ → base ≤ b) ∧ ButS (fun b => base ≤ b) w.heap.size w w' := by
  have hvs : ∀ j v, ([Value.int .i64 x] : List Value)[j]? = some v → w.cell? ⟨vb, 0 + j, none⟩ = some v := fun j v hj => by
    rw [Nat.zero_add, hv.cells]
    cases j with
    | zero => simpa using hj
    | succ j => simp at hj
  have h1v : ∀ v ∈ ([Value.int .i64 x] : List Value), v.oneCell' = true := fun v hv => by simp at hv; subst hv; rfl
  have hgrow : ∀ (n : Nat) (cs : List Value) (base' : Option Addr), cs = intVals xs → xs.length = k → n = k → c < k + 1 → k ≤ c → (base' = none → n = 0) → (∀ a, base' = some a → ∀ j v, cs[j]? = some v → w.cell? (a.add j) = some v) →
      Calls Try.prog 74 #[.slice base' k c, .int .i64 (k : Int), .slice (some ⟨vb, 0, none⟩) 1 1] w fun e w' => ∃ a' c', e = .returned (.slice a' (insL k x xs).length c') ∧ (insL k x xs).length ≤ c' ∧ IntsAt w' a' (insL k x xs) ∧ (∀ b off, a' = some ⟨b, off, none⟩ → base ≤ b) ∧ ButS (fun b => base ≤ b) w.heap.size w w' := fun n cs base' hcs hl hn hc hkc hnil hcell => by
    subst hn
    refine (Any2.slices_Insert_int_end_grow laysI base' n c vb 0 1 1 cs [.int .i64 x] w (by omega) hkc hc (by omega) (by rw [hcs]; simp [intVals, hl]) rfl hnil hcell hvs h1v).mono ?_
    rintro e w' ⟨rfl, rfl⟩
    have hlen : (insL n x xs).length = n + 1 := by rw [insL_length (by omega), hl]
    refine ⟨_, _, by rw [hlen], by rw [hlen]; exact grownCap_ge _ _ _ _, ?_, fun b off e => by cases e; exact hbase, (ButS.refl _ _ _).drew.alloc (Nat.le_refl _) _⟩
    refine intsAt_has (has_new (w := w.drew) rfl) (fun j hj => ?_)
    rw [hlen] at hj
    rw [Array.getElem?_append_left (by simp [hcs, intVals, hl]; omega), hcs]
    have e : intVals xs ++ [Value.int .i64 x] = intVals (insL n x xs) := by
      unfold insL intVals
      rw [List.take_of_length_le (by omega), List.drop_eq_nil_of_le (by omega)]; simp
    rw [e, List.getElem?_toArray, intVals_get (by rw [hlen]; exact hj)]
  rcases row_cells hown with ⟨rfl, rfl, rfl, rfl⟩ | ⟨g, cur, rfl, hg, hh, hnc, hcm, hsz, hl, hcs⟩
  · obtain rfl : i = 0 := by omega
    exact hgrow 0 [] none rfl rfl rfl (by omega) (Nat.le_refl _) (fun _ => rfl) (fun a e => by cases e)
  · have hvg : g ≠ vb := hav g 0 rfl
    have hcell : ∀ j v, (intVals xs)[j]? = some v → w.cell? ⟨g, 0 + j, none⟩ = some v := fun j v hj => by
      have hjl : j < xs.length := by
        have := (List.getElem?_eq_some_iff.1 hj).1
        simpa [intVals] using this
      rw [intVals_get hjl] at hj
      rw [Nat.zero_add, hh.cells, hcs j (by omega)]; exact hj
    have h1c : ∀ v ∈ intVals xs, v.oneCell' = true := fun v hv => by obtain ⟨y, _, rfl⟩ := List.mem_map.1 hv; rfl
    have hlc : (intVals xs).length = k := by simp [intVals, hl]
    have hlen : (insL i x xs).length = k + 1 := by rw [insL_length (by omega), hl]
    have hsome : ∀ j, j < c → (w.cell? ⟨g, 0 + j, none⟩).isSome = true := fun j hj => by
      rw [Nat.zero_add, hh.cells, Array.getElem?_eq_getElem (by omega)]; rfl
    rcases Nat.lt_or_ge i k with hik | hik
    · rcases Nat.lt_or_ge c (k + 1) with hc | hc
      · refine (Any2.slices_Insert_int_grow laysI g 0 k c i vb 0 1 1 (intVals xs) [.int .i64 x] w hik (by omega) hnc hc (by omega) hlc rfl hcell hvs h1c h1v).mono ?_
        rintro e w' ⟨rfl, rfl⟩
        refine ⟨_, _, by rw [hlen], by rw [hlen]; exact grownCap_ge _ _ _ _, fun _ => ⟨w.heap.size, 0, rfl, ?_, fun j hj => ?_⟩, fun b off e => by cases e; exact hbase, ?_⟩
        · rw [size_setCells]; show _ < (World.drew _).heap.size; show _ < (World.setCells _ _ _ _).heap.size; rw [size_setCells]; show _ < (World.alloc _ _).heap.size; simp
        · rw [hlen] at hj
          have hcs0 : (intVals (xs.take i)).length = i := by simp [intVals]; omega
          have htk : ((intVals xs).take i) = intVals (xs.take i) := by simp [intVals, List.map_take]
          have hdk : ((intVals xs).drop i) = intVals (xs.drop i) := by simp [intVals, List.map_drop]
          have hH := has_new (w := w) (b := w.heap.size) (cs := ((intVals xs).take i).toArray ++ Builtin.zeroCells (Value.int .i64 0).cells (k + 1 - i) ++ Builtin.zeroCells (Value.int .i64 0).cells (grownCap w (k + 1) c (rhoI.t 3) - (k + 1))) (T := rhoI.t 3) rfl
          have hss : ∀ j, j < k + 1 → ((w.alloc (.cells (((intVals xs).take i).toArray ++ Builtin.zeroCells (Value.int .i64 0).cells (k + 1 - i) ++ Builtin.zeroCells (Value.int .i64 0).cells (grownCap w (k + 1) c (rhoI.t 3) - (k + 1))) (rhoI.t 3))).cell? ⟨w.heap.size, j, none⟩).isSome = true := fun j hj => by
            have hz1 : (Value.int .i64 0).cells.size = 1 := rfl
            rw [hH.cells, Array.getElem?_append_left (by simp [htk, hcs0, Builtin.zeroCells, hz1]; omega)]
            rw [Array.getElem?_eq_getElem (by simp [htk, hcs0, Builtin.zeroCells, hz1]; omega)]; rfl
          rw [Nat.zero_add, insL_get (by omega)]
          by_cases c1 : j < i
          · rw [if_pos c1, World.cell?_setCells_out _ _ _ _ _ (fun _ _ => .inl (by show j < i + 1; omega)), drew_cell, World.cell?_setCells_out _ _ _ _ _ (fun _ _ => .inl c1), drew_cell, hH.cells]
            rw [Array.append_assoc, Array.getElem?_append_left (by simp [htk, hcs0]; exact c1), List.getElem?_toArray, htk, intVals_get (by simp; omega)]
            simp [List.getD_eq_getElem?_getD, c1]
          · rw [if_neg c1]
            by_cases c2 : j = i
            · rw [if_pos c2, c2, World.cell?_setCells_out _ _ _ _ _ (fun _ _ => .inl (by show i < i + 1; omega)), drew_cell]
              have := World.cell?_setCells_in w.heap.size [Value.int .i64 x] i (w.alloc (.cells (((intVals xs).take i).toArray ++ Builtin.zeroCells (Value.int .i64 0).cells (k + 1 - i) ++ Builtin.zeroCells (Value.int .i64 0).cells (grownCap w (k + 1) c (rhoI.t 3) - (k + 1))) (rhoI.t 3))).drew (fun j hj => by
                simp at hj; subst hj; rw [drew_cell]; exact hss _ (by omega)) 0 (by simp)
              simpa using this
            · rw [if_neg c2]
              have hdl : (intVals (xs.drop i)).length = k - i := by simp [intVals, hl]
              have := World.cell?_setCells_in w.heap.size (intVals (xs.drop i)) (i + 1) ((w.alloc (.cells (((intVals xs).take i).toArray ++ Builtin.zeroCells (Value.int .i64 0).cells (k + 1 - i) ++ Builtin.zeroCells (Value.int .i64 0).cells (grownCap w (k + 1) c (rhoI.t 3) - (k + 1))) (rhoI.t 3))).drew.setCells w.heap.size i [.int .i64 x]).drew (fun j hj => by
                rw [drew_cell]; exact isSome_setCells _ _ _ _ (fun j hj => by simp at hj; subst hj; rw [drew_cell]; exact hss _ (by omega)) _ (by rw [drew_cell]; exact hss _ (by omega))) (j - (i + 1)) (by rw [hdl]; omega)
              rw [show i + 1 + (j - (i + 1)) = j by omega] at this
              rw [hdk, this]
              congr 1
              have e := intVals_get (xs := xs.drop i) (i := j - (i + 1)) (by simp [hl]; omega)
              rw [List.getElem?_eq_getElem (by rw [hdl]; omega)] at e
              have e := Option.some.inj e
              rw [e]
              congr 1
              simp only [List.getD_eq_getElem?_getD, List.getElem?_drop, show i + (j - (i + 1)) = j - 1 by omega]
        · refine buts_setCells (.inl (Nat.le_refl _)) _ _ _ (ButS.drew (buts_setCells (.inl (Nat.le_refl _)) _ _ _ (ButS.drew ?_)))
          exact (ButS.refl _ _ _).alloc (Nat.le_refl _) _
      · refine (Any2.slices_Insert_int_shift laysI g 0 k c i vb 0 1 1 (intVals xs) [.int .i64 x] w hik (by omega) hc hcm (Ne.symm hvg) hlc rfl hcell (fun j hj => hsome j (by omega)) (fun j hj => hh.frozen _) hvs h1c h1v 3 3 1 c (by unfold World.shape?; rw [show w.heap[vb]? = _ from hv]; rfl) (by unfold World.shape?; rw [show w.heap[g]? = _ from hh]; show some (_, cur.size) = _; rw [hsz]) (by omega) (hv.frozen _) (hv.frozen _)).mono ?_
        rintro e w' ⟨rfl, rfl⟩
        refine ⟨_, _, by rw [hlen], by rw [hlen]; exact hc, fun _ => ⟨g, 0, rfl, ?_, fun j hj => ?_⟩, fun b off e => by cases e; exact hg, ?_⟩
        · rw [size_setCells, size_setCells]; exact hh.lt
        · rw [hlen] at hj
          have hdk : ((intVals xs).drop i) = intVals (xs.drop i) := by simp [intVals, List.map_drop]
          have hdl : (intVals (xs.drop i)).length = k - i := by simp [intVals, hl]
          rw [Nat.zero_add, insL_get (by omega), hdk]
          simp only [Nat.zero_add]
          by_cases c1 : j < i
          · rw [if_pos c1, World.cell?_setCells_out _ _ _ _ _ (fun _ _ => .inl c1), World.cell?_setCells_out _ _ _ _ _ (fun _ _ => .inl (by show j < i + 1; omega)), drew_cell]
            have := hcell j _ (intVals_get (show j < xs.length by omega))
            rwa [Nat.zero_add] at this
          · rw [if_neg c1]
            by_cases c2 : j = i
            · rw [if_pos c2, c2]
              have := World.cell?_setCells_in g [Value.int .i64 x] i (w.drew.setCells g (i + 1) (intVals (xs.drop i))) (fun j hj => by
                simp at hj; subst hj
                refine isSome_setCells _ _ _ _ (fun j hj => ?_) _ ?_
                · rw [drew_cell]; have := hsome (i + 1 + j) (by omega); rwa [Nat.zero_add] at this
                · rw [drew_cell]; have := hsome (i + 0) (by omega); rwa [Nat.zero_add] at this) 0 (by simp)
              simpa using this
            · rw [if_neg c2, World.cell?_setCells_out _ _ _ _ _ (fun _ _ => .inr (by show i + 1 ≤ j; omega))]
              have := World.cell?_setCells_in g (intVals (xs.drop i)) (i + 1) w.drew (fun j hj => by
                rw [drew_cell]; have := hsome (i + 1 + j) (by omega); rwa [Nat.zero_add] at this) (j - (i + 1)) (by rw [hdl]; omega)
              rw [show i + 1 + (j - (i + 1)) = j by omega] at this
              rw [this]
              congr 1
              have e := intVals_get (xs := xs.drop i) (i := j - (i + 1)) (by simp [hl]; omega)
              rw [List.getElem?_eq_getElem (by rw [hdl]; omega)] at e
              have e := Option.some.inj e
              rw [e]
              congr 1
              simp only [List.getD_eq_getElem?_getD, List.getElem?_drop, show i + (j - (i + 1)) = j - 1 by omega]
        · exact buts_setCells (.inr hg) _ _ _ (buts_setCells (.inr hg) _ _ _ (ButS.refl _ _ _).drew)
    · obtain rfl : i = k := by omega
      rcases Nat.lt_or_ge c (i + 1) with hc | hc
      · exact hgrow i (intVals xs) _ rfl hl rfl hc hnc (fun e => by cases e) (fun a e j v hj => by cases e; rw [add_off]; have := hcell j v hj; rwa [Nat.zero_add] at this)
      · refine (Any2.slices_Insert_int_end_room laysI g 0 i c vb 0 1 1 [.int .i64 x] w (by omega) hc hcm rfl (fun j hj => by have := hsome (i + j) (by omega); rwa [← Nat.add_assoc] at this) (fun j hj => hh.frozen _) hvs h1v).mono ?_
        rintro e w' ⟨rfl, rfl⟩
        refine ⟨_, _, by rw [hlen], by rw [hlen]; exact hc, fun _ => ⟨g, 0, rfl, ?_, fun j hj => ?_⟩, fun b off e => by cases e; exact hg, buts_setCells (.inr hg) _ _ _ (ButS.refl _ _ _)⟩
        · rw [size_setCells]; exact hh.lt
        · rw [hlen] at hj
          rw [Nat.zero_add, insL_get (by omega), Nat.zero_add]
          by_cases c1 : j < i
          · rw [if_pos c1, World.cell?_setCells_out _ _ _ _ _ (fun _ _ => .inl c1)]
            have := hcell j _ (intVals_get (show j < xs.length by omega))
            rwa [Nat.zero_add] at this
          · obtain rfl : j = i := by omega
            rw [if_neg c1, if_pos rfl]
            have := World.cell?_setCells_in g [Value.int .i64 x] j w (fun t ht => by
              have := hsome (j + t) (by simp at ht; omega); rwa [Nat.zero_add] at this) 0 (by simp)
            simpa using this
end Go.Proofs.Ytjcbphhemmdnjaa
