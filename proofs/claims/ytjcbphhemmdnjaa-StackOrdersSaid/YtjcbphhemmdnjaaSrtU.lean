/- slices.insertionSortCmpFunc over places, with flexline.Sorted's comparer. slices.swapRangeCmpFunc and rotateCmpFunc over places. Merging in place, plain: what slices.symMergeCmpFunc does to places. slices.symMergeCmpFunc over places: the cases of one item at one side. -/
import Derived.Test.YtjcbphhemmdnjaaRow
import Derived.Test.YtjcbphhemmdnjaaTry
import Derived.LoopTactic
import Derived.Deep.DeepCutAuto
import Derived.Test.YtjcbphhemmdnjaaBut
import Derived.Test.YtjcbphhemmdnjaaRegionD
import Derived.Shelf.RegionOpenPlain
namespace Go.Proofs.Ytjcbphhemmdnjaa
open Go.RowKit
set_option linter.unusedSimpArgs false
set_option linter.unusedVariables false
-- below_from_drew
attribute [local go_sem] ov_cell_same ov_cell_other ov_frozen_same ov_frozen_other ov_size ov_setCell_same ov_setCell_other cell_alloc_old frozen_alloc_old setCell_alloc_old old_alloc old_ov old_drew old_drewN old_setCell

/-- What comparing two ints answers. -/
def cmpZ (x y : Int) : Int := if x < y then -1 else if y < x then 1 else 0
/-- How labels read; what lies behind them in their block. -/
structure Lbl where
  f : Nat → Int
  rest : List Value
instance : CoeFun Lbl (fun _ => Nat → Int) := ⟨Lbl.f⟩
/-- Items as cells. -/
def placeCells (nd : Lbl) (ys : List Nat) : Array Value := ((ys.map fun (y : Nat) => Value.int .i64 (nd y)) ++ nd.rest).toArray
variable {nd : Lbl}
/-- One place sinks from j on, down to a. -/
def sinkF (os : List Int) (a : Nat) : Nat → List Nat → List Nat
  | 0, ys => ys
  | j + 1, ys => if a < j + 1 ∧ os.getD (ys.getD (j + 1) 0) 0 < os.getD (ys.getD j 0) 0 then sinkF os a j ((ys.set (j + 1) (ys.getD j 0)).set j (ys.getD (j + 1) 0)) else ys
/-- The places from i on, k of them, sink one after another. -/
def sinksF (os : List Int) (a : Nat) : Nat → Nat → List Nat → List Nat
  | _, 0, ys => ys
  | i, k + 1, ys => sinksF os a (i + 1) k (sinkF os a i ys)
example : sinksF [1, 0, 1] 0 1 2 [0, 1, 2] = [1, 0, 2] := by decide
theorem sinkF_length (os : List Int) (a : Nat) : ∀ (j : Nat) (ys : List Nat), (sinkF os a j ys).length = ys.length
  | 0, ys => rfl
  | j + 1, ys => by
    unfold sinkF
    split
    · rw [sinkF_length os a j]; simp
    · rfl
theorem sinkF_lt (os : List Int) (a m : Nat) : ∀ (j : Nat) (ys : List Nat), j < ys.length → (∀ y ∈ ys, y < m) → ∀ y ∈ sinkF os a j ys, y < m
  | 0, ys, _, h => h
  | j + 1, ys, hj, h => by
    unfold sinkF
    split
    · refine sinkF_lt os a m j _ (by simp; omega) ?_
      intro y hy
      have g1 : ys.getD (j + 1) 0 < m := by simp only [List.getD_eq_getElem?_getD, List.getElem?_eq_getElem hj, Option.getD_some]; exact h _ (List.getElem_mem _)
      have g0 : ys.getD j 0 < m := by simp only [List.getD_eq_getElem?_getD, List.getElem?_eq_getElem (show j < ys.length by omega), Option.getD_some]; exact h _ (List.getElem_mem _)
      rcases List.mem_or_eq_of_mem_set hy with hy | rfl
      · rcases List.mem_or_eq_of_mem_set hy with hy | rfl
        · exact h y hy
        · exact g0
      · exact g1
    · exact h
theorem sinkF_done (os : List Int) {a q : Nat} (xs : List Nat) (h : q ≤ a) : sinkF os a q xs = xs := by
  cases q with
  | zero => rfl
  | succ r => unfold sinkF; rw [if_neg (by omega)]
theorem sinkF_stay (os : List Int) {a r : Nat} (xs : List Nat) (h : ¬ os.getD (xs.getD (r + 1) 0) 0 < os.getD (xs.getD r 0) 0) : sinkF os a (r + 1) xs = xs := by
  rw [sinkF, if_neg (fun q => h q.2)]
theorem sinkF_swap (os : List Int) {a r : Nat} (xs : List Nat) (ha : a < r + 1) (h : os.getD (xs.getD (r + 1) 0) 0 < os.getD (xs.getD r 0) 0) : sinkF os a (r + 1) xs = sinkF os a r ((xs.set (r + 1) (xs.getD r 0)).set r (xs.getD (r + 1) 0)) := by
  rw [sinkF, if_pos ⟨ha, h⟩]
theorem sinksF_step (os : List Int) {a k hi : Nat} (zs : List Nat) (h : k < hi) : sinksF os a k (hi - k) zs = sinksF os a (k + 1) (hi - (k + 1)) (sinkF os a k zs) := by
  rw [show hi - k = (hi - (k + 1)) + 1 by omega]; rfl
theorem set_front (l r : List Value) (i : Nat) (v : Value) (h : i < l.length) : ((l ++ r).toArray.setIfInBounds i v) = (l.set i v ++ r).toArray := by
  rw [List.setIfInBounds_toArray, List.set_append_left _ _ h]
theorem placeCells_get {ys : List Nat} {j : Nat} (h : j < ys.length) : (placeCells nd ys)[j]? = some (.int .i64 (nd (ys.getD j 0))) := by
  unfold placeCells
  rw [List.getElem?_toArray, List.getElem?_append_left (by simpa using h)]
  simp [h]
theorem placeCells_swap (ys : List Nat) (j : Nat) (x y : Nat) (h : j + 1 < ys.length) : ((placeCells nd ys).setIfInBounds (j + 1) (.int .i64 (nd x))).setIfInBounds j (.int .i64 (nd y)) = placeCells nd ((ys.set (j + 1) x).set j y) := by
  unfold placeCells
  rw [set_front _ _ _ _ (by simpa using h), set_front _ _ _ _ (by simp; omega)]
  simp [List.map_set]
/-- The places in block g, and all else below as before. -/
def SortL (nd : Lbl) (w : World) (g : Nat) (T : TypeId) (ys : List Nat) (w' : World) : Prop := Has w' g (placeCells nd ys) T ∧ w.heap.size ≤ w'.heap.size ∧ (∀ b o, b < w.heap.size → b ≠ g → w'.cell? ⟨b, o, none⟩ = w.cell? ⟨b, o, none⟩) ∧ But g w.heap.size w w'
theorem SortL.of {w w' : World} {g : Nat} {T : TypeId} {ys : List Nat} (h1 : Has w' g (placeCells nd ys) T) (h2 : But g w.heap.size w w') : SortL nd w g T ys w' :=
  ⟨h1, h2.size, fun b o hl hn => World.cell?_of_block (w := w) (h2.block b hl hn), h2⟩
theorem SortL.below {w w1 w2 : World} {g : Nat} {T : TypeId} {ys : List Nat} (h : SortL nd w g T ys w1) (hb : Below w1.heap.size w1 w2) : SortL nd w g T ys w2 :=
  .of (has_below hb h.1) (h.2.2.2.then hb h.2.1)
theorem SortL.store {w w1 : World} {g : Nat} {T : TypeId} {ys zs : List Nat} (h : SortL nd w g T ys w1) : SortL nd w g T zs (ov w1 g (placeCells nd zs) T) :=
  .of (has_ov_same h.1.lt) (h.2.2.2.ovs _ _)
theorem But.up {g b b2 : Nat} {w w1 w2 : World} (h : But g b w w1) (k : But g b2 w1 w2) (hb : b ≤ b2) : But g b w w2 :=
  h.trans ⟨k.os, k.tape, k.output, k.size, fun i hi => k.block i (Nat.lt_of_lt_of_le hi hb)⟩
/-- The order, told by what the comparer answers. -/
structure OrdIn (nd : Lbl) (p g : Nat) (os : List Int) (w : World) : Prop where
  n : os.length ≤ 1000000
  call : ∀ x y, x < os.length → y < os.length → ∀ W, But g w.heap.size w W → Calls Try.prog 62 #[.int .i64 (nd x), .int .i64 (nd y), .pointer (some ⟨p, 0, none⟩)] W fun e w' => e = .returned (.int .i64 (cmpZ (os.getD x 0) (os.getD y 0))) ∧ Below W.heap.size W w'
theorem OrdIn.sort {p g : Nat} {os : List Int} {w w' : World} {T : TypeId} {ys : List Nat} (h : OrdIn nd p g os w) (k : SortL nd w g T ys w') : OrdIn nd p g os w' :=
  ⟨h.n, fun x y hx hy W hW => h.call x y hx hy W (k.2.2.2.up hW k.2.1)⟩
theorem OrdIn.below {p g : Nat} {os : List Int} {w w' : World} (h : OrdIn nd p g os w) (k : Below w.heap.size w w') : OrdIn nd p g os w' :=
  ⟨h.n, fun x y hx hy W hW => h.call x y hx hy W (((But.refl g _ w).then k (Nat.le_refl _)).up hW k.size)⟩
theorem OrdIn.less {p g : Nat} {os : List Int} {w : World} (h : OrdIn nd p g os w) {x y : Nat} (hx : x < os.length) (hy : y < os.length) :
    Calls Try.prog 62 #[.int .i64 (nd x), .int .i64 (nd y), .pointer (some ⟨p, 0, none⟩)] w fun e w' => e = .returned (.int .i64 (cmpZ (os.getD x 0) (os.getD y 0))) ∧ Below w.heap.size w w' :=
  h.call x y hx hy w (But.refl _ _ _)
set_option maxRecDepth 100000 in
set_option maxHeartbeats 4000000 in
theorem sorts_any (p g gcap a hi : Nat) (os : List Int) (ys : List Nat) (T : TypeId) (w : World) (hab : a < hi) (hhi : hi ≤ ys.length) (hm : ys.length ≤ 1000000) (hos : os.length ≤ 1000000) (hin : ∀ y ∈ ys, y < os.length) (hgc : ys.length ≤ gcap)
    (ho : OrdIn nd p g os w) (hg : Has w g (placeCells nd ys) T) :
    Calls Try.prog 92 #[.slice (some ⟨g, 0, none⟩) ys.length gcap, .int .i64 (a : Int), .int .i64 (hi : Int), .func (Fn.func 62) #[] #[.pointer (some ⟨p, 0, none⟩)]] w fun e w' => e = .returned (.tuple #[]) ∧ SortL nd w g T (sinksF os a (a + 1) (hi - (a + 1)) ys) w' := by
  have HG := Lib.hid hg; have HIN := Lib.hid hin; have HGL := hg.lt; have HO := Lib.hid ho
  have HW := Lib.hid (ov_self hg)
  clear hg hin ho
  generalize hlen : ys.length = n at *
  have HN := Lib.hid hlen; clear hlen
  go_enter Try.func92, Try.ntmps92
  go_wp2_with fail
  go_loopw [8] (fun i wr => ∃ (k : Nat) (zs : List Nat), a + 1 ≤ k ∧ k ≤ hi ∧ i = .int .i64 (k : Int) ∧ zs.length = n ∧ (∀ z ∈ zs, z < os.length) ∧ sinksF os a (a + 1) (hi - (a + 1)) ys = sinksF os a k (hi - k) zs ∧ SortL nd w g T zs wr) (fun i _ => hi - (intOf i).toNat)
  case atStart => exact ⟨a + 1, ys, by omega, by omega, by go_num, HN.out, HIN.out, rfl, .of HG.out (But.refl _ _ _)⟩
  case round =>
    obtain ⟨k, zs, hk1, hk2, rfl, hzl, hzin, heq, hl⟩ := hrel
    have HZL := Lib.hid hzl; have HZIN := Lib.hid hzin; have HEQ := Lib.hid heq; have HL := Lib.hid hl
    clear hzl hzin heq hl
    rcases Nat.lt_or_ge k hi with c1 | c1
    · have c2 : (k : Int) < hi := by omega
      go_wp2_with fail
      go_loopw [9] (fun j wr => ∃ (q : Nat) (xs : List Nat), q ≤ k ∧ j = .int .i64 (q : Int) ∧ xs.length = n ∧ (∀ z ∈ xs, z < os.length) ∧ sinkF os a k zs = sinkF os a q xs ∧ SortL nd w g T xs wr) (fun j _ => (intOf j).toNat)
      case atStart => exact ⟨k, zs, by omega, rfl, HZL.out, HZIN.out, rfl, HL.out⟩
      case round =>
        obtain ⟨q, xs, hq, rfl, hxl, hxin, heq2, hl⟩ := hrel
        have HXL := Lib.hid hxl; have HXIN := Lib.hid hxin; have HEQ2 := Lib.hid heq2; have HLL := Lib.hid hl
        have d1 := hl.1.lt
        have d2 := hl.2.1
        have HO2 := Lib.hid (HO.out.sort hl)
        clear hxl hxin heq2 hl
        rcases Nat.lt_or_ge a q with c3 | c3
        · obtain ⟨r, rfl⟩ : ∃ r, q = r + 1 := ⟨q - 1, by omega⟩
          have k1 := (has_cell HLL.out.1 (placeCells_get (nd := nd) (ys := xs) (j := r + 1) (by rw [HXL.out]; omega)))
          have k0 := (has_cell HLL.out.1 (placeCells_get (nd := nd) (ys := xs) (j := r) (by rw [HXL.out]; omega)))
          have m1 : xs.getD (r + 1) 0 < os.length := HXIN.out _ (by simp only [List.getD_eq_getElem?_getD, List.getElem?_eq_getElem (show r + 1 < xs.length by rw [HXL.out]; omega), Option.getD_some]; exact List.getElem_mem _)
          have m0 : xs.getD r 0 < os.length := HXIN.out _ (by simp only [List.getD_eq_getElem?_getD, List.getElem?_eq_getElem (show r < xs.length by rw [HXL.out]; omega), Option.getD_some]; exact List.getElem_mem _)
          have hless := fun W (hB : Below wr.heap.size wr W) => (HO2.out.below hB).less m1 m0
          have HLESS := Lib.hid hless
          clear hless
          have c4 : (a : Int) < (r : Int) + 1 := by omega
          have c5 : (r : Int) + 1 < n := by omega
          have c6 : (r : Int) < n := by omega
          have c8 : (0 : Int) ≤ (r : Int) + 1 := by omega
          have c9 : (r : Int) + 1 - 1 = r := by omega
          have c10 : (0 : Int) ≤ (r : Int) := by omega
          generalize hX : xs.getD (r + 1) 0 = X at *
          generalize hY : xs.getD r 0 = Y at *
          have HX := Lib.hid hX; have HY := Lib.hid hY
          clear hX hY
          have hcmp : (cmpZ (os.getD X 0) (os.getD Y 0) < 0 ↔ os.getD X 0 < os.getD Y 0) := by unfold cmpZ; split <;> (try split) <;> omega
          have HCMP := Lib.hid hcmp; clear hcmp
          generalize cmpZ (os.getD X 0) (os.getD Y 0) = z at *
          rcases Int.lt_or_le z 0 with c7 | c7
          · go_wp2_with fail
            refine region_ord [(0, 0), (1, 0), (2, 0), (3, 0), (4, 0), (5, 0), (6, 0), (7, 0), (8, 0), (9, 0), (10, 0), (11, 0), (12, 0), (13, 0), (14, 1), (15, 0), (16, 0)] (by kernel_rfl) (by kernel_rfl) (fun _ _ d _ _ h => by cases d <;> exact h) (fun hS => ?_)
            (refine wpG_read (v := ?_) rfl (.inl ⟨by rfl, fun wx hbx => ?_⟩) ?_; rotate_left; (focus (obtain ⟨cx0, fx0, zx0⟩ := bk hbx (g) (by first | omega | (simp; done) | (simp; omega)); go_simp; (try go_bits); (try with_reducible rfl))); try simp only [Act.put, List.setIfInBounds_toArray, List.set_cons_zero, List.set_cons_succ])
            (refine wpG_read (v := ?_) rfl (.inl ⟨by rfl, fun wx hbx => ?_⟩) ?_; rotate_left; (focus (obtain ⟨cx0, fx0, zx0⟩ := bk hbx (g) (by first | omega | (simp; done) | (simp; omega)); go_simp; (try go_bits); (try with_reducible rfl))); try simp only [Act.put, List.setIfInBounds_toArray, List.set_cons_zero, List.set_cons_succ])
            (refine wpG_read (v := ?_) rfl (.inl ⟨by rfl, fun wx hbx => ?_⟩) ?_; rotate_left; (focus (obtain ⟨cx0, fx0, zx0⟩ := bk hbx (g) (by first | omega | (simp; done) | (simp; omega)); go_simp; (try go_bits); (try with_reducible rfl))); try simp only [Act.put, List.setIfInBounds_toArray, List.set_cons_zero, List.set_cons_succ])
            (refine wpG_read (v := ?_) rfl (.inl ⟨by rfl, fun wx hbx => ?_⟩) ?_; rotate_left; (focus (obtain ⟨cx0, fx0, zx0⟩ := bk hbx (g) (by first | omega | (simp; done) | (simp; omega)); go_simp; (try go_bits); (try with_reducible rfl))); try simp only [Act.put, List.setIfInBounds_toArray, List.set_cons_zero, List.set_cons_succ])
            (first | (refine wpG_pass rfl (by rfl) ?_; simp only [Act.put, List.setIfInBounds_toArray, List.set_cons_zero, List.set_cons_succ]) | (refine wpG_read (v := ?_) rfl (.inl ⟨by rfl, fun wx hbx => ?_⟩) ?_; rotate_left; (focus (obtain ⟨cx0, fx0, zx0⟩ := bk hbx (g) (by first | omega | (simp; done) | (simp; omega)); go_simp; (try go_bits); (try with_reducible rfl))); try simp only [Act.put, List.setIfInBounds_toArray, List.set_cons_zero, List.set_cons_succ]))
            (first | (refine wpG_pass rfl (by rfl) ?_; simp only [Act.put, List.setIfInBounds_toArray, List.set_cons_zero, List.set_cons_succ]) | (refine wpG_read (v := ?_) rfl (.inl ⟨by rfl, fun wx hbx => ?_⟩) ?_; rotate_left; (focus (obtain ⟨cx0, fx0, zx0⟩ := bk hbx (g) (by first | omega | (simp; done) | (simp; omega)); go_simp; (try go_bits); (try with_reducible rfl))); try simp only [Act.put, List.setIfInBounds_toArray, List.set_cons_zero, List.set_cons_succ]))
            (first | (refine wpG_pass rfl (by rfl) ?_; simp only [Act.put, List.setIfInBounds_toArray, List.set_cons_zero, List.set_cons_succ]) | (refine wpG_read (v := ?_) rfl (.inl ⟨by rfl, fun wx hbx => ?_⟩) ?_; rotate_left; (focus (obtain ⟨cx0, fx0, zx0⟩ := bk hbx (g) (by first | omega | (simp; done) | (simp; omega)); go_simp; (try go_bits); (try with_reducible rfl))); try simp only [Act.put, List.setIfInBounds_toArray, List.set_cons_zero, List.set_cons_succ]))
            (first | (refine wpG_pass rfl (by rfl) ?_; simp only [Act.put, List.setIfInBounds_toArray, List.set_cons_zero, List.set_cons_succ]) | (refine wpG_read (v := ?_) rfl (.inl ⟨by rfl, fun wx hbx => ?_⟩) ?_; rotate_left; (focus (obtain ⟨cx0, fx0, zx0⟩ := bk hbx (g) (by first | omega | (simp; done) | (simp; omega)); go_simp; (try go_bits); (try with_reducible rfl))); try simp only [Act.put, List.setIfInBounds_toArray, List.set_cons_zero, List.set_cons_succ]))
            (first | (refine wpG_pass rfl (by rfl) ?_; simp only [Act.put, List.setIfInBounds_toArray, List.set_cons_zero, List.set_cons_succ]) | (refine wpG_read (v := ?_) rfl (.inl ⟨by rfl, fun wx hbx => ?_⟩) ?_; rotate_left; (focus (obtain ⟨cx0, fx0, zx0⟩ := bk hbx (g) (by first | omega | (simp; done) | (simp; omega)); go_simp; (try go_bits); (try with_reducible rfl))); try simp only [Act.put, List.setIfInBounds_toArray, List.set_cons_zero, List.set_cons_succ]))
            (first | (refine wpG_pass rfl (by rfl) ?_; simp only [Act.put, List.setIfInBounds_toArray, List.set_cons_zero, List.set_cons_succ]) | (refine wpG_read (v := ?_) rfl (.inl ⟨by rfl, fun wx hbx => ?_⟩) ?_; rotate_left; (focus (obtain ⟨cx0, fx0, zx0⟩ := bk hbx (g) (by first | omega | (simp; done) | (simp; omega)); go_simp; (try go_bits); (try with_reducible rfl))); try simp only [Act.put, List.setIfInBounds_toArray, List.set_cons_zero, List.set_cons_succ]))
            (first | (refine wpG_pass rfl (by rfl) ?_; simp only [Act.put, List.setIfInBounds_toArray, List.set_cons_zero, List.set_cons_succ]) | (refine wpG_read (v := ?_) rfl (.inl ⟨by rfl, fun wx hbx => ?_⟩) ?_; rotate_left; (focus (obtain ⟨cx0, fx0, zx0⟩ := bk hbx (g) (by first | omega | (simp; done) | (simp; omega)); go_simp; (try go_bits); (try with_reducible rfl))); try simp only [Act.put, List.setIfInBounds_toArray, List.set_cons_zero, List.set_cons_succ]))
            (first | (refine wpG_pass rfl (by rfl) ?_; simp only [Act.put, List.setIfInBounds_toArray, List.set_cons_zero, List.set_cons_succ]) | (refine wpG_read (v := ?_) rfl (.inl ⟨by rfl, fun wx hbx => ?_⟩) ?_; rotate_left; (focus (obtain ⟨cx0, fx0, zx0⟩ := bk hbx (g) (by first | omega | (simp; done) | (simp; omega)); go_simp; (try go_bits); (try with_reducible rfl))); try simp only [Act.put, List.setIfInBounds_toArray, List.set_cons_zero, List.set_cons_succ]))
            (first | (refine wpG_pass rfl (by rfl) ?_; simp only [Act.put, List.setIfInBounds_toArray, List.set_cons_zero, List.set_cons_succ]) | (refine wpG_read (v := ?_) rfl (.inl ⟨by rfl, fun wx hbx => ?_⟩) ?_; rotate_left; (focus (obtain ⟨cx0, fx0, zx0⟩ := bk hbx (g) (by first | omega | (simp; done) | (simp; omega)); go_simp; (try go_bits); (try with_reducible rfl))); try simp only [Act.put, List.setIfInBounds_toArray, List.set_cons_zero, List.set_cons_succ]))
            (first | (refine wpG_pass rfl (by rfl) ?_; simp only [Act.put, List.setIfInBounds_toArray, List.set_cons_zero, List.set_cons_succ]) | (refine wpG_read (v := ?_) rfl (.inl ⟨by rfl, fun wx hbx => ?_⟩) ?_; rotate_left; (focus (obtain ⟨cx0, fx0, zx0⟩ := bk hbx (g) (by first | omega | (simp; done) | (simp; omega)); go_simp; (try go_bits); (try with_reducible rfl))); try simp only [Act.put, List.setIfInBounds_toArray, List.set_cons_zero, List.set_cons_succ]))
            (first | (refine wpG_make rfl (fun K hK => ?_); go_simp; (with_reducible refine hK _ _ ?_ (fun hS2 => ?_)); (focus ((repeat' (first | (with_reducible exact Below.refl _ _) | (with_reducible assumption) | (with_reducible refine below_from_drew ?_) | (with_reducible refine Below.alloc ?_ ?_ _) | (with_reducible refine Below.drew ?_) | (with_reducible refine below_drewN ?_ _) | (with_reducible refine Below.setCell ?_ ?_ _) | (with_reducible refine below_via ?_ (by assumption) ?_) | (with_reducible refine below_ov ?_ ?_ _ _) | go_size)); done)); clear hK K hS; have hS := hS2; clear hS2; try simp only [Act.put, List.setIfInBounds_toArray, List.set_cons_zero, List.set_cons_succ]) | (refine wpG_make rfl (fun K hK => ?_); go_simp; (go_at_call 62; (with_reducible refine (HLESS.out _ (by (repeat' (first | (with_reducible exact Below.refl _ _) | (with_reducible assumption) | (with_reducible refine below_from_drew ?_) | (with_reducible refine Below.alloc ?_ ?_ _) | (with_reducible refine Below.drew ?_) | (with_reducible refine below_drewN ?_ _) | (with_reducible refine Below.setCell ?_ ?_ _) | (with_reducible refine below_via ?_ (by assumption) ?_) | (with_reducible refine below_ov ?_ ?_ _ _) | go_size)))).mono ?_); rintro e u5 ⟨rfl, hb⟩; have hz := hb.size; refine (fun hB => ?_ : Below wr.heap.size wr u5 → _) ?_; rotate_left; (focus ((repeat' (first | (with_reducible exact Below.refl _ _) | (with_reducible assumption) | (with_reducible refine below_from_drew ?_) | (with_reducible refine Below.alloc ?_ ?_ _) | (with_reducible refine Below.drew ?_) | (with_reducible refine below_drewN ?_ _) | (with_reducible refine Below.setCell ?_ ?_ _) | (with_reducible refine below_via ?_ (by assumption) ?_) | (with_reducible refine below_ov ?_ ?_ _ _) | go_size)); done)); (try simp only [World.size_alloc, World.size_setCell, World.size_drew, ov_size] at hz)); (try simp only []); refine hK _ _ ?_ (fun hS2 => ?_); (focus ((repeat' (first | (with_reducible exact Below.refl _ _) | (with_reducible assumption) | (with_reducible refine below_from_drew ?_) | (with_reducible refine Below.alloc ?_ ?_ _) | (with_reducible refine Below.drew ?_) | (with_reducible refine below_drewN ?_ _) | (with_reducible refine Below.setCell ?_ ?_ _) | (with_reducible refine below_via ?_ (by assumption) ?_) | (with_reducible refine below_ov ?_ ?_ _ _) | go_size)); done)); clear hK K hS; have hS := hS2; clear hS2; (try clear hb); try simp only [Act.put, List.setIfInBounds_toArray, List.set_cons_zero, List.set_cons_succ]))
            (first | (refine wpG_pass rfl (by rfl) ?_; simp only [Act.put, List.setIfInBounds_toArray, List.set_cons_zero, List.set_cons_succ]) | (refine wpG_read (v := ?_) rfl (.inl ⟨by rfl, fun wx hbx => ?_⟩) ?_; rotate_left; (focus (obtain ⟨cx0, fx0, zx0⟩ := bk hbx (g) (by first | omega | (simp; done) | (simp; omega)); go_simp; (try go_bits); (try with_reducible rfl))); try simp only [Act.put, List.setIfInBounds_toArray, List.set_cons_zero, List.set_cons_succ]))
            (refine wpG_read (v := ?_) rfl (.inl ⟨by rfl, fun wx hbx => ?_⟩) ?_; rotate_left; (focus (obtain ⟨cx0, fx0, zx0⟩ := bk hbx (g) (by first | omega | (simp; done) | (simp; omega)); go_simp; (try go_bits); (try with_reducible rfl))); try simp only [Act.put, List.setIfInBounds_toArray, List.set_cons_zero, List.set_cons_succ])
            refine wpG_nil ?_
            have hb5 : Below wr.heap.size wr u5 := by (repeat' (first | (with_reducible exact Below.refl _ _) | (with_reducible assumption) | (with_reducible refine below_from_drew ?_) | (with_reducible refine Below.alloc ?_ ?_ _) | (with_reducible refine Below.drew ?_) | (with_reducible refine below_drewN ?_ _) | (with_reducible refine Below.setCell ?_ ?_ _) | (with_reducible refine below_via ?_ (by assumption) ?_) | (with_reducible refine below_ov ?_ ?_ _ _) | go_size))
            have hL5 := HLL.out.below hb5
            have hs5 := ov_self hL5.1
            have d5 := hL5.1.lt
            have HL5 := Lib.hid hL5
            have g1 := placeCells_get (nd := nd) (ys := xs) (j := r + 1) (by rw [HXL.out]; omega)
            have g0 := placeCells_get (nd := nd) (ys := xs) (j := r) (by rw [HXL.out]; omega)
            rw [HX.out] at g1; rw [HY.out] at g0
            rw [← hs5]; clear hs5 hL5 hb5
            go_wp2_with fail
            have mixed : Try.prog.follows .mixedOrders = true := by kernel_rfl
            go_big_region_o
            clear mixed
            go_wp2_with fail
            go_roundw
            case rel => exact ⟨r, (xs.set (r + 1) (xs.getD r 0)).set r (xs.getD (r + 1) 0), by omega, by go_num, by simp [HXL.out], by
              intro y hy
              rw [HX.out, HY.out] at hy
              rcases List.mem_or_eq_of_mem_set hy with hy | rfl
              · rcases List.mem_or_eq_of_mem_set hy with hy | rfl
                · exact HXIN.out y hy
                · exact m0
              · exact m1, by rw [HEQ2.out, sinkF_swap _ _ c3 (by rw [HX.out, HY.out, ← HCMP.out]; exact c7)], by
              have e := placeCells_swap (nd := nd) xs r Y X (by rw [HXL.out]; omega)
              rw [HX.out, HY.out, e]
              have e2 := HL5.out.store (zs := (xs.set (r + 1) Y).set r X)
              exact e2.below (by (repeat' (first | (with_reducible exact Below.refl _ _) | (with_reducible assumption) | (with_reducible refine below_from_drew ?_) | (with_reducible refine Below.alloc ?_ ?_ _) | (with_reducible refine Below.drew ?_) | (with_reducible refine below_drewN ?_ _) | (with_reducible refine Below.setCell ?_ ?_ _) | (with_reducible refine below_via ?_ (by assumption) ?_) | (with_reducible refine below_ov ?_ ?_ _ _) | go_size)))⟩
            case measure => simp [intOf]
          · have c11 : decide (z < 0) = false := by simp; omega
            go_wp2_with fail
            refine region_ord [(0, 0), (1, 0), (2, 0), (3, 0), (4, 0), (5, 0), (6, 0), (7, 0), (8, 0), (9, 0), (10, 0), (11, 0), (12, 0), (13, 0), (14, 1), (15, 0), (16, 0)] (by kernel_rfl) (by kernel_rfl) (fun _ _ d _ _ h => by cases d <;> exact h) (fun hS => ?_)
            (refine wpG_read (v := ?_) rfl (.inl ⟨by rfl, fun wx hbx => ?_⟩) ?_; rotate_left; (focus (obtain ⟨cx0, fx0, zx0⟩ := bk hbx (g) (by first | omega | (simp; done) | (simp; omega)); go_simp; (try go_bits); (try with_reducible rfl))); try simp only [Act.put, List.setIfInBounds_toArray, List.set_cons_zero, List.set_cons_succ])
            (refine wpG_read (v := ?_) rfl (.inl ⟨by rfl, fun wx hbx => ?_⟩) ?_; rotate_left; (focus (obtain ⟨cx0, fx0, zx0⟩ := bk hbx (g) (by first | omega | (simp; done) | (simp; omega)); go_simp; (try go_bits); (try with_reducible rfl))); try simp only [Act.put, List.setIfInBounds_toArray, List.set_cons_zero, List.set_cons_succ])
            (refine wpG_read (v := ?_) rfl (.inl ⟨by rfl, fun wx hbx => ?_⟩) ?_; rotate_left; (focus (obtain ⟨cx0, fx0, zx0⟩ := bk hbx (g) (by first | omega | (simp; done) | (simp; omega)); go_simp; (try go_bits); (try with_reducible rfl))); try simp only [Act.put, List.setIfInBounds_toArray, List.set_cons_zero, List.set_cons_succ])
            (refine wpG_read (v := ?_) rfl (.inl ⟨by rfl, fun wx hbx => ?_⟩) ?_; rotate_left; (focus (obtain ⟨cx0, fx0, zx0⟩ := bk hbx (g) (by first | omega | (simp; done) | (simp; omega)); go_simp; (try go_bits); (try with_reducible rfl))); try simp only [Act.put, List.setIfInBounds_toArray, List.set_cons_zero, List.set_cons_succ])
            (first | (refine wpG_pass rfl (by rfl) ?_; simp only [Act.put, List.setIfInBounds_toArray, List.set_cons_zero, List.set_cons_succ]) | (refine wpG_read (v := ?_) rfl (.inl ⟨by rfl, fun wx hbx => ?_⟩) ?_; rotate_left; (focus (obtain ⟨cx0, fx0, zx0⟩ := bk hbx (g) (by first | omega | (simp; done) | (simp; omega)); go_simp; (try go_bits); (try with_reducible rfl))); try simp only [Act.put, List.setIfInBounds_toArray, List.set_cons_zero, List.set_cons_succ]))
            (first | (refine wpG_pass rfl (by rfl) ?_; simp only [Act.put, List.setIfInBounds_toArray, List.set_cons_zero, List.set_cons_succ]) | (refine wpG_read (v := ?_) rfl (.inl ⟨by rfl, fun wx hbx => ?_⟩) ?_; rotate_left; (focus (obtain ⟨cx0, fx0, zx0⟩ := bk hbx (g) (by first | omega | (simp; done) | (simp; omega)); go_simp; (try go_bits); (try with_reducible rfl))); try simp only [Act.put, List.setIfInBounds_toArray, List.set_cons_zero, List.set_cons_succ]))
            (first | (refine wpG_pass rfl (by rfl) ?_; simp only [Act.put, List.setIfInBounds_toArray, List.set_cons_zero, List.set_cons_succ]) | (refine wpG_read (v := ?_) rfl (.inl ⟨by rfl, fun wx hbx => ?_⟩) ?_; rotate_left; (focus (obtain ⟨cx0, fx0, zx0⟩ := bk hbx (g) (by first | omega | (simp; done) | (simp; omega)); go_simp; (try go_bits); (try with_reducible rfl))); try simp only [Act.put, List.setIfInBounds_toArray, List.set_cons_zero, List.set_cons_succ]))
            (first | (refine wpG_pass rfl (by rfl) ?_; simp only [Act.put, List.setIfInBounds_toArray, List.set_cons_zero, List.set_cons_succ]) | (refine wpG_read (v := ?_) rfl (.inl ⟨by rfl, fun wx hbx => ?_⟩) ?_; rotate_left; (focus (obtain ⟨cx0, fx0, zx0⟩ := bk hbx (g) (by first | omega | (simp; done) | (simp; omega)); go_simp; (try go_bits); (try with_reducible rfl))); try simp only [Act.put, List.setIfInBounds_toArray, List.set_cons_zero, List.set_cons_succ]))
            (first | (refine wpG_pass rfl (by rfl) ?_; simp only [Act.put, List.setIfInBounds_toArray, List.set_cons_zero, List.set_cons_succ]) | (refine wpG_read (v := ?_) rfl (.inl ⟨by rfl, fun wx hbx => ?_⟩) ?_; rotate_left; (focus (obtain ⟨cx0, fx0, zx0⟩ := bk hbx (g) (by first | omega | (simp; done) | (simp; omega)); go_simp; (try go_bits); (try with_reducible rfl))); try simp only [Act.put, List.setIfInBounds_toArray, List.set_cons_zero, List.set_cons_succ]))
            (first | (refine wpG_pass rfl (by rfl) ?_; simp only [Act.put, List.setIfInBounds_toArray, List.set_cons_zero, List.set_cons_succ]) | (refine wpG_read (v := ?_) rfl (.inl ⟨by rfl, fun wx hbx => ?_⟩) ?_; rotate_left; (focus (obtain ⟨cx0, fx0, zx0⟩ := bk hbx (g) (by first | omega | (simp; done) | (simp; omega)); go_simp; (try go_bits); (try with_reducible rfl))); try simp only [Act.put, List.setIfInBounds_toArray, List.set_cons_zero, List.set_cons_succ]))
            (first | (refine wpG_pass rfl (by rfl) ?_; simp only [Act.put, List.setIfInBounds_toArray, List.set_cons_zero, List.set_cons_succ]) | (refine wpG_read (v := ?_) rfl (.inl ⟨by rfl, fun wx hbx => ?_⟩) ?_; rotate_left; (focus (obtain ⟨cx0, fx0, zx0⟩ := bk hbx (g) (by first | omega | (simp; done) | (simp; omega)); go_simp; (try go_bits); (try with_reducible rfl))); try simp only [Act.put, List.setIfInBounds_toArray, List.set_cons_zero, List.set_cons_succ]))
            (first | (refine wpG_pass rfl (by rfl) ?_; simp only [Act.put, List.setIfInBounds_toArray, List.set_cons_zero, List.set_cons_succ]) | (refine wpG_read (v := ?_) rfl (.inl ⟨by rfl, fun wx hbx => ?_⟩) ?_; rotate_left; (focus (obtain ⟨cx0, fx0, zx0⟩ := bk hbx (g) (by first | omega | (simp; done) | (simp; omega)); go_simp; (try go_bits); (try with_reducible rfl))); try simp only [Act.put, List.setIfInBounds_toArray, List.set_cons_zero, List.set_cons_succ]))
            (first | (refine wpG_pass rfl (by rfl) ?_; simp only [Act.put, List.setIfInBounds_toArray, List.set_cons_zero, List.set_cons_succ]) | (refine wpG_read (v := ?_) rfl (.inl ⟨by rfl, fun wx hbx => ?_⟩) ?_; rotate_left; (focus (obtain ⟨cx0, fx0, zx0⟩ := bk hbx (g) (by first | omega | (simp; done) | (simp; omega)); go_simp; (try go_bits); (try with_reducible rfl))); try simp only [Act.put, List.setIfInBounds_toArray, List.set_cons_zero, List.set_cons_succ]))
            (first | (refine wpG_pass rfl (by rfl) ?_; simp only [Act.put, List.setIfInBounds_toArray, List.set_cons_zero, List.set_cons_succ]) | (refine wpG_read (v := ?_) rfl (.inl ⟨by rfl, fun wx hbx => ?_⟩) ?_; rotate_left; (focus (obtain ⟨cx0, fx0, zx0⟩ := bk hbx (g) (by first | omega | (simp; done) | (simp; omega)); go_simp; (try go_bits); (try with_reducible rfl))); try simp only [Act.put, List.setIfInBounds_toArray, List.set_cons_zero, List.set_cons_succ]))
            (first | (refine wpG_make rfl (fun K hK => ?_); go_simp; (with_reducible refine hK _ _ ?_ (fun hS2 => ?_)); (focus ((repeat' (first | (with_reducible exact Below.refl _ _) | (with_reducible assumption) | (with_reducible refine below_from_drew ?_) | (with_reducible refine Below.alloc ?_ ?_ _) | (with_reducible refine Below.drew ?_) | (with_reducible refine below_drewN ?_ _) | (with_reducible refine Below.setCell ?_ ?_ _) | (with_reducible refine below_via ?_ (by assumption) ?_) | (with_reducible refine below_ov ?_ ?_ _ _) | go_size)); done)); clear hK K hS; have hS := hS2; clear hS2; try simp only [Act.put, List.setIfInBounds_toArray, List.set_cons_zero, List.set_cons_succ]) | (refine wpG_make rfl (fun K hK => ?_); go_simp; (go_at_call 62; (with_reducible refine (HLESS.out _ (by (repeat' (first | (with_reducible exact Below.refl _ _) | (with_reducible assumption) | (with_reducible refine below_from_drew ?_) | (with_reducible refine Below.alloc ?_ ?_ _) | (with_reducible refine Below.drew ?_) | (with_reducible refine below_drewN ?_ _) | (with_reducible refine Below.setCell ?_ ?_ _) | (with_reducible refine below_via ?_ (by assumption) ?_) | (with_reducible refine below_ov ?_ ?_ _ _) | go_size)))).mono ?_); rintro e u5 ⟨rfl, hb⟩; have hz := hb.size; refine (fun hB => ?_ : Below wr.heap.size wr u5 → _) ?_; rotate_left; (focus ((repeat' (first | (with_reducible exact Below.refl _ _) | (with_reducible assumption) | (with_reducible refine below_from_drew ?_) | (with_reducible refine Below.alloc ?_ ?_ _) | (with_reducible refine Below.drew ?_) | (with_reducible refine below_drewN ?_ _) | (with_reducible refine Below.setCell ?_ ?_ _) | (with_reducible refine below_via ?_ (by assumption) ?_) | (with_reducible refine below_ov ?_ ?_ _ _) | go_size)); done)); (try simp only [World.size_alloc, World.size_setCell, World.size_drew, ov_size] at hz)); (try simp only []); refine hK _ _ ?_ (fun hS2 => ?_); (focus ((repeat' (first | (with_reducible exact Below.refl _ _) | (with_reducible assumption) | (with_reducible refine below_from_drew ?_) | (with_reducible refine Below.alloc ?_ ?_ _) | (with_reducible refine Below.drew ?_) | (with_reducible refine below_drewN ?_ _) | (with_reducible refine Below.setCell ?_ ?_ _) | (with_reducible refine below_via ?_ (by assumption) ?_) | (with_reducible refine below_ov ?_ ?_ _ _) | go_size)); done)); clear hK K hS; have hS := hS2; clear hS2; (try clear hb); try simp only [Act.put, List.setIfInBounds_toArray, List.set_cons_zero, List.set_cons_succ]))
            (first | (refine wpG_pass rfl (by rfl) ?_; simp only [Act.put, List.setIfInBounds_toArray, List.set_cons_zero, List.set_cons_succ]) | (refine wpG_read (v := ?_) rfl (.inl ⟨by rfl, fun wx hbx => ?_⟩) ?_; rotate_left; (focus (obtain ⟨cx0, fx0, zx0⟩ := bk hbx (g) (by first | omega | (simp; done) | (simp; omega)); go_simp; (try go_bits); (try with_reducible rfl))); try simp only [Act.put, List.setIfInBounds_toArray, List.set_cons_zero, List.set_cons_succ]))
            (refine wpG_read (v := ?_) rfl (.inl ⟨by rfl, fun wx hbx => ?_⟩) ?_; rotate_left; (focus (obtain ⟨cx0, fx0, zx0⟩ := bk hbx (g) (by first | omega | (simp; done) | (simp; omega)); go_simp; (try go_bits); (try with_reducible rfl))); try simp only [Act.put, List.setIfInBounds_toArray, List.set_cons_zero, List.set_cons_succ])
            refine wpG_nil ?_
            go_wp2_with fail
            go_roundw
            case rel => exact ⟨k + 1, xs, by omega, by omega, by go_num, HXL.out, HXIN.out, by rw [HEQ.out, sinksF_step _ _ c1, HEQ2.out, sinkF_stay _ _ (by rw [HX.out, HY.out, ← HCMP.out]; omega)], HLL.out.below (by (repeat' (first | (with_reducible exact Below.refl _ _) | (with_reducible assumption) | (with_reducible refine below_from_drew ?_) | (with_reducible refine Below.alloc ?_ ?_ _) | (with_reducible refine Below.drew ?_) | (with_reducible refine below_drewN ?_ _) | (with_reducible refine Below.setCell ?_ ?_ _) | (with_reducible refine below_via ?_ (by assumption) ?_) | (with_reducible refine below_ov ?_ ?_ _ _) | go_size)))⟩
            case measure => simp [intOf]; omega
        · have c4 : (q : Int) ≤ a := by omega
          have c9 : decide (a < q) = false := by simp; omega
          go_wp2_with fail
          refine region_ord [(0, 0), (1, 0), (2, 0), (3, 0), (4, 0), (5, 0), (6, 0), (7, 0), (8, 0), (9, 0), (10, 0), (11, 0), (12, 0), (13, 0), (14, 1), (15, 0), (16, 0)] (by kernel_rfl) (by kernel_rfl) (fun _ _ d _ _ h => by cases d <;> exact h) (fun hS => ?_)
          (refine wpG_read (v := ?_) rfl (.inl ⟨by rfl, fun wx hbx => ?_⟩) ?_; rotate_left; (focus (go_simp; (try go_bits); (try with_reducible rfl))); try simp only [Act.put, List.setIfInBounds_toArray, List.set_cons_zero, List.set_cons_succ])
          (refine wpG_read (v := ?_) rfl (.inl ⟨by rfl, fun wx hbx => ?_⟩) ?_; rotate_left; (focus (go_simp; (try go_bits); (try with_reducible rfl))); try simp only [Act.put, List.setIfInBounds_toArray, List.set_cons_zero, List.set_cons_succ])
          (refine wpG_read (v := ?_) rfl (.inl ⟨by rfl, fun wx hbx => ?_⟩) ?_; rotate_left; (focus (go_simp; (try go_bits); (try with_reducible rfl))); try simp only [Act.put, List.setIfInBounds_toArray, List.set_cons_zero, List.set_cons_succ])
          (refine wpG_read (v := ?_) rfl (.inl ⟨by rfl, fun wx hbx => ?_⟩) ?_; rotate_left; (focus (go_simp; (try go_bits); (try with_reducible rfl))); try simp only [Act.put, List.setIfInBounds_toArray, List.set_cons_zero, List.set_cons_succ])
          (first | (refine wpG_pass rfl (by rfl) ?_; simp only [Act.put, List.setIfInBounds_toArray, List.set_cons_zero, List.set_cons_succ]) | (refine wpG_read (v := ?_) rfl (.inl ⟨by rfl, fun wx hbx => ?_⟩) ?_; rotate_left; (focus (go_simp; (try go_bits); (try with_reducible rfl))); try simp only [Act.put, List.setIfInBounds_toArray, List.set_cons_zero, List.set_cons_succ]))
          (first | (refine wpG_pass rfl (by rfl) ?_; simp only [Act.put, List.setIfInBounds_toArray, List.set_cons_zero, List.set_cons_succ]) | (refine wpG_read (v := ?_) rfl (.inl ⟨by rfl, fun wx hbx => ?_⟩) ?_; rotate_left; (focus (go_simp; (try go_bits); (try with_reducible rfl))); try simp only [Act.put, List.setIfInBounds_toArray, List.set_cons_zero, List.set_cons_succ]))
          (first | (refine wpG_pass rfl (by rfl) ?_; simp only [Act.put, List.setIfInBounds_toArray, List.set_cons_zero, List.set_cons_succ]) | (refine wpG_read (v := ?_) rfl (.inl ⟨by rfl, fun wx hbx => ?_⟩) ?_; rotate_left; (focus (go_simp; (try go_bits); (try with_reducible rfl))); try simp only [Act.put, List.setIfInBounds_toArray, List.set_cons_zero, List.set_cons_succ]))
          (first | (refine wpG_pass rfl (by rfl) ?_; simp only [Act.put, List.setIfInBounds_toArray, List.set_cons_zero, List.set_cons_succ]) | (refine wpG_read (v := ?_) rfl (.inl ⟨by rfl, fun wx hbx => ?_⟩) ?_; rotate_left; (focus (go_simp; (try go_bits); (try with_reducible rfl))); try simp only [Act.put, List.setIfInBounds_toArray, List.set_cons_zero, List.set_cons_succ]))
          (first | (refine wpG_pass rfl (by rfl) ?_; simp only [Act.put, List.setIfInBounds_toArray, List.set_cons_zero, List.set_cons_succ]) | (refine wpG_read (v := ?_) rfl (.inl ⟨by rfl, fun wx hbx => ?_⟩) ?_; rotate_left; (focus (go_simp; (try go_bits); (try with_reducible rfl))); try simp only [Act.put, List.setIfInBounds_toArray, List.set_cons_zero, List.set_cons_succ]))
          (first | (refine wpG_pass rfl (by rfl) ?_; simp only [Act.put, List.setIfInBounds_toArray, List.set_cons_zero, List.set_cons_succ]) | (refine wpG_read (v := ?_) rfl (.inl ⟨by rfl, fun wx hbx => ?_⟩) ?_; rotate_left; (focus (go_simp; (try go_bits); (try with_reducible rfl))); try simp only [Act.put, List.setIfInBounds_toArray, List.set_cons_zero, List.set_cons_succ]))
          (first | (refine wpG_pass rfl (by rfl) ?_; simp only [Act.put, List.setIfInBounds_toArray, List.set_cons_zero, List.set_cons_succ]) | (refine wpG_read (v := ?_) rfl (.inl ⟨by rfl, fun wx hbx => ?_⟩) ?_; rotate_left; (focus (go_simp; (try go_bits); (try with_reducible rfl))); try simp only [Act.put, List.setIfInBounds_toArray, List.set_cons_zero, List.set_cons_succ]))
          (first | (refine wpG_pass rfl (by rfl) ?_; simp only [Act.put, List.setIfInBounds_toArray, List.set_cons_zero, List.set_cons_succ]) | (refine wpG_read (v := ?_) rfl (.inl ⟨by rfl, fun wx hbx => ?_⟩) ?_; rotate_left; (focus (go_simp; (try go_bits); (try with_reducible rfl))); try simp only [Act.put, List.setIfInBounds_toArray, List.set_cons_zero, List.set_cons_succ]))
          (first | (refine wpG_pass rfl (by rfl) ?_; simp only [Act.put, List.setIfInBounds_toArray, List.set_cons_zero, List.set_cons_succ]) | (refine wpG_read (v := ?_) rfl (.inl ⟨by rfl, fun wx hbx => ?_⟩) ?_; rotate_left; (focus (go_simp; (try go_bits); (try with_reducible rfl))); try simp only [Act.put, List.setIfInBounds_toArray, List.set_cons_zero, List.set_cons_succ]))
          (first | (refine wpG_pass rfl (by rfl) ?_; simp only [Act.put, List.setIfInBounds_toArray, List.set_cons_zero, List.set_cons_succ]) | (refine wpG_read (v := ?_) rfl (.inl ⟨by rfl, fun wx hbx => ?_⟩) ?_; rotate_left; (focus (go_simp; (try go_bits); (try with_reducible rfl))); try simp only [Act.put, List.setIfInBounds_toArray, List.set_cons_zero, List.set_cons_succ]))
          (first | (refine wpG_make rfl (fun K hK => ?_); go_simp; (with_reducible refine hK _ _ ?_ (fun hS2 => ?_)); (focus ((repeat' (first | (with_reducible exact Below.refl _ _) | (with_reducible assumption) | (with_reducible refine below_from_drew ?_) | (with_reducible refine Below.alloc ?_ ?_ _) | (with_reducible refine Below.drew ?_) | (with_reducible refine below_drewN ?_ _) | (with_reducible refine Below.setCell ?_ ?_ _) | (with_reducible refine below_via ?_ (by assumption) ?_) | (with_reducible refine below_ov ?_ ?_ _ _) | go_size)); done)); clear hK K hS; have hS := hS2; clear hS2; try simp only [Act.put, List.setIfInBounds_toArray, List.set_cons_zero, List.set_cons_succ]) | (refine wpG_make rfl (fun K hK => ?_); go_simp; (try simp only []); (try simp only []); refine hK _ _ ?_ (fun hS2 => ?_); (focus ((repeat' (first | (with_reducible exact Below.refl _ _) | (with_reducible assumption) | (with_reducible refine below_from_drew ?_) | (with_reducible refine Below.alloc ?_ ?_ _) | (with_reducible refine Below.drew ?_) | (with_reducible refine below_drewN ?_ _) | (with_reducible refine Below.setCell ?_ ?_ _) | (with_reducible refine below_via ?_ (by assumption) ?_) | (with_reducible refine below_ov ?_ ?_ _ _) | go_size)); done)); clear hK K hS; have hS := hS2; clear hS2; (try clear hb); try simp only [Act.put, List.setIfInBounds_toArray, List.set_cons_zero, List.set_cons_succ]))
          (first | (refine wpG_pass rfl (by rfl) ?_; simp only [Act.put, List.setIfInBounds_toArray, List.set_cons_zero, List.set_cons_succ]) | (refine wpG_read (v := ?_) rfl (.inl ⟨by rfl, fun wx hbx => ?_⟩) ?_; rotate_left; (focus (go_simp; (try go_bits); (try with_reducible rfl))); try simp only [Act.put, List.setIfInBounds_toArray, List.set_cons_zero, List.set_cons_succ]))
          (refine wpG_read (v := ?_) rfl (.inl ⟨by rfl, fun wx hbx => ?_⟩) ?_; rotate_left; (focus (go_simp; (try go_bits); (try with_reducible rfl))); try simp only [Act.put, List.setIfInBounds_toArray, List.set_cons_zero, List.set_cons_succ])
          refine wpG_nil ?_
          go_wp2_with fail
          go_roundw
          case rel => exact ⟨k + 1, xs, by omega, by omega, by go_num, HXL.out, HXIN.out, by rw [HEQ.out, sinksF_step _ _ c1, HEQ2.out, sinkF_done _ _ c3], HLL.out.below (by (repeat' (first | (with_reducible exact Below.refl _ _) | (with_reducible assumption) | (with_reducible refine below_from_drew ?_) | (with_reducible refine Below.alloc ?_ ?_ _) | (with_reducible refine Below.drew ?_) | (with_reducible refine below_drewN ?_ _) | (with_reducible refine Below.setCell ?_ ?_ _) | (with_reducible refine below_via ?_ (by assumption) ?_) | (with_reducible refine below_ov ?_ ?_ _ _) | go_size)))⟩
          case measure => simp [intOf]; omega
    · obtain rfl : k = hi := by omega
      have c2 : (k : Int) ≤ k := by omega
      go_wp2_with fail
      go_end0
      exact ⟨rfl, by have q := HEQ.out; rw [Nat.sub_self] at q; rw [q]; exact HL.out⟩
end Go.Proofs.Ytjcbphhemmdnjaa
namespace Go.Proofs.Ytjcbphhemmdnjaa
open Go.RowKit
set_option linter.unusedSimpArgs false
set_option linter.unusedVariables false
-- below_from_drew
attribute [local go_sem] ov_cell_same ov_cell_other ov_frozen_same ov_frozen_other ov_size ov_setCell_same ov_setCell_other cell_alloc_old frozen_alloc_old setCell_alloc_old old_alloc old_ov old_drew old_drewN old_setCell
variable {nd : Lbl}
/-- Two places swapped. -/
def swp (a b : Nat) (ys : List Nat) : List Nat := (ys.set a (ys.getD b 0)).set b (ys.getD a 0)
theorem swp_length (a b : Nat) (ys : List Nat) : (swp a b ys).length = ys.length := by simp [swp]
theorem swp_at {a b : Nat} {ys : List Nat} (ha : a < ys.length) (hb : b < ys.length) (p : Nat) : (swp a b ys).getD p 0 = if p = b then ys.getD a 0 else if p = a then ys.getD b 0 else ys.getD p 0 := by
  unfold swp
  simp only [List.getD_eq_getElem?_getD]
  by_cases h1 : p = b
  · subst h1; rw [if_pos rfl, List.getElem?_set_self (by simpa using hb)]; rfl
  · rw [if_neg h1, List.getElem?_set_ne (Ne.symm h1)]
    by_cases h2 : p = a
    · subst h2; rw [if_pos rfl, List.getElem?_set_self ha]; rfl
    · rw [if_neg h2, List.getElem?_set_ne (Ne.symm h2)]
/-- As many swaps, one after another. -/
def swaps (a b : Nat) : Nat → List Nat → List Nat
  | 0, ys => ys
  | k + 1, ys => swp (a + k) (b + k) (swaps a b k ys)
theorem swaps_length (a b : Nat) : ∀ (k : Nat) (ys : List Nat), (swaps a b k ys).length = ys.length
  | 0, ys => rfl
  | k + 1, ys => by rw [swaps, swp_length, swaps_length a b k ys]
theorem swaps_at {a b : Nat} {ys : List Nat} : ∀ (k : Nat), a + k ≤ b → b + k ≤ ys.length → ∀ p, (swaps a b k ys).getD p 0 = if a ≤ p ∧ p < a + k then ys.getD (b + (p - a)) 0 else if b ≤ p ∧ p < b + k then ys.getD (a + (p - b)) 0 else ys.getD p 0
  | 0, _, _, p => by rw [if_neg (by omega), if_neg (by omega)]; rfl
  | k + 1, h1, h2, p => by
    have ih := swaps_at (a := a) (b := b) (ys := ys) k (by omega) (by omega)
    rw [swaps, swp_at (a := a + k) (b := b + k) (by rw [swaps_length]; omega) (by rw [swaps_length]; omega), ih, ih, ih]
    by_cases e1 : p = b + k
    · subst e1
      rw [if_pos rfl, if_neg (by omega), if_neg (by omega), if_neg (by omega), if_pos (by omega)]
      congr 1; omega
    · rw [if_neg e1]
      by_cases e2 : p = a + k
      · subst e2
        rw [if_pos rfl, if_neg (by omega), if_neg (by omega), if_pos (by omega)]
        congr 1; omega
      · rw [if_neg e2]
        by_cases e3 : a ≤ p ∧ p < a + k
        · rw [if_pos e3, if_pos (by omega)]
        · rw [if_neg e3]
          rw [if_neg (show ¬ (a ≤ p ∧ p < a + (k + 1)) by omega)]
          by_cases e4 : b ≤ p ∧ p < b + k
          · rw [if_pos e4, if_pos (by omega)]
          · rw [if_neg e4, if_neg (by omega)]
theorem placeCells_swp {ys : List Nat} {a b : Nat} (ha : a < ys.length) (hb : b < ys.length) : ((placeCells nd ys).setIfInBounds a (.int .i64 (nd (ys.getD b 0)))).setIfInBounds b (.int .i64 (nd (ys.getD a 0))) = placeCells nd (swp a b ys) := by
  unfold placeCells swp
  rw [set_front _ _ _ _ (by simpa using ha), set_front _ _ _ _ (by simpa using hb)]
  simp [List.map_set]
set_option maxRecDepth 100000 in
set_option maxHeartbeats 4000000 in
theorem swaps_any (g gcap a b n : Nat) (f : Value) (ys : List Nat) (T : TypeId) (w : World) (hab : a + n ≤ b) (hb : b + n ≤ ys.length) (hm : ys.length ≤ 1000000) (hg : Has w g (placeCells nd ys) T) :
    Calls Try.prog 99 #[.slice (some ⟨g, 0, none⟩) ys.length gcap, .int .i64 (a : Int), .int .i64 (b : Int), .int .i64 (n : Int), f] w fun e w' => e = .returned (.tuple #[]) ∧ SortL nd w g T (swaps a b n ys) w' := by
  have HG := Lib.hid hg; have HGL := hg.lt
  clear hg
  generalize hlen : ys.length = l at *
  have HN := Lib.hid hlen; clear hlen
  go_enter Try.func99, Try.ntmps99
  go_wp2_with fail
  go_loopw [10] (fun i wr => ∃ (k : Nat), k ≤ n ∧ i = .int .i64 (k : Int) ∧ SortL nd w g T (swaps a b k ys) wr) (fun i _ => n - (intOf i).toNat)
  case atStart => exact ⟨0, by omega, rfl, .of HG.out (But.refl _ _ _)⟩
  case round =>
    obtain ⟨k, hk, rfl, hl⟩ := hrel
    have HL := Lib.hid hl
    have l1 := hl.1.lt
    clear hl
    rcases Nat.lt_or_ge k n with c1 | c1
    · have c2 : (k : Int) < n := by omega
      have c3 : (a : Int) + k < l := by omega
      have c4 : (b : Int) + k < l := by omega
      have c5 : (0 : Int) ≤ (a : Int) + k := by omega
      have c6 : (0 : Int) ≤ (b : Int) + k := by omega
      have hsl := swaps_length a b k ys
      have g1 := placeCells_get (nd := nd) (ys := swaps a b k ys) (j := a + k) (by rw [hsl, HN.out]; omega)
      have g2 := placeCells_get (nd := nd) (ys := swaps a b k ys) (j := b + k) (by rw [hsl, HN.out]; omega)
      have hst := HL.out.store (zs := swp (a + k) (b + k) (swaps a b k ys))
      rw [← placeCells_swp (nd := nd) (by first | (rw [HZL.out]; omega) | (rw [hsl, HN.out]; omega)) (by first | (rw [HZL.out]; omega) | (rw [hsl, HN.out]; omega))] at hst
      have HST := Lib.hid hst
      have hs5 := ov_self HL.out.1
      clear hst hsl
      have hsw : swaps a b (k + 1) ys = swp (a + k) (b + k) (swaps a b k ys) := rfl
      rw [← hsw] at HST
      clear hsw
      generalize swaps a b k ys = xs at *
      generalize xs.getD (a + k) 0 = X at *
      generalize xs.getD (b + k) 0 = Y at *
      have g3 : ((placeCells nd xs).setIfInBounds (a + k) (.int .i64 (nd Y)))[b + k]? = some (.int .i64 (nd Y)) := by rw [Array.getElem?_setIfInBounds_ne (by omega)]; exact g2
      rw [← hs5]; clear hs5
      go_wp2_with fail
      have mixed : Try.prog.follows .mixedOrders = true := by kernel_rfl
      go_big_region_o
      clear mixed
      go_wp2_with fail
      go_roundw
      case rel => exact ⟨k + 1, by omega, by go_num, HST.out.below (by (repeat' (first | (with_reducible exact Below.refl _ _) | (with_reducible assumption) | (with_reducible refine below_from_drew ?_) | (with_reducible refine Below.alloc ?_ ?_ _) | (with_reducible refine Below.drew ?_) | (with_reducible refine below_drewN ?_ _) | (with_reducible refine Below.setCell ?_ ?_ _) | (with_reducible refine below_via ?_ (by assumption) ?_) | (with_reducible refine below_ov ?_ ?_ _ _) | go_size)))⟩
      case measure => simp [intOf]; omega
    · obtain rfl : k = n := by omega
      have c2 : (k : Int) ≤ k := by omega
      go_wp2_with fail
      go_end0
      exact ⟨rfl, HL.out⟩
/-- What stands where, behind a rotation of two neighbours. -/
def rotG (a m b : Nat) (ys : List Nat) (p : Nat) : Nat := if a ≤ p ∧ p < b then (if p < a + (b - m) then ys.getD (p - a + m) 0 else ys.getD (p - (b - m)) 0) else ys.getD p 0
theorem rot_left {m i j : Nat} {zs : List Nat} (h1 : j < i) (h2 : i ≤ m) (h3 : m + j ≤ zs.length) (p : Nat) : rotG (m - (i - j)) m (m + j) (swaps (m - i) m j zs) p = rotG (m - i) m (m + j) zs p := by
  have e := fun q => swaps_at (a := m - i) (b := m) (ys := zs) j (by omega) h3 q
  unfold rotG
  rw [e, e, e]
  repeat' split
  all_goals first | omega | (refine congrArg (fun q => zs.getD q 0) ?_; omega)
theorem rot_right {m i j : Nat} {zs : List Nat} (h1 : i < j) (h2 : i ≤ m) (h3 : m + j ≤ zs.length) (p : Nat) : rotG (m - i) m (m + (j - i)) (swaps (m - i) (m + j - i) i zs) p = rotG (m - i) m (m + j) zs p := by
  have e := fun q => swaps_at (a := m - i) (b := m + j - i) (ys := zs) i (by omega) (by omega) q
  unfold rotG
  rw [e, e, e]
  repeat' split
  all_goals first | omega | (refine congrArg (fun q => zs.getD q 0) ?_; omega)
theorem rot_last {m i : Nat} {zs : List Nat} (h2 : i ≤ m) (h3 : m + i ≤ zs.length) (p : Nat) : (swaps (m - i) m i zs).getD p 0 = rotG (m - i) m (m + i) zs p := by
  have e := fun q => swaps_at (a := m - i) (b := m) (ys := zs) i (by omega) h3 q
  unfold rotG
  rw [e]
  repeat' split
  all_goals first | omega | (refine congrArg (fun q => zs.getD q 0) ?_; omega)
theorem SortL.trans {w w1 w2 : World} {g : Nat} {T : TypeId} {ys zs : List Nat} (h : SortL nd w g T ys w1) (k : SortL nd w1 g T zs w2) : SortL nd w g T zs w2 :=
  .of k.1 (h.2.2.2.trans ⟨k.2.2.2.os, k.2.2.2.tape, k.2.2.2.output, k.2.2.2.size, fun i hi => k.2.2.2.block i (Nat.lt_of_lt_of_le hi h.2.1)⟩)
set_option maxRecDepth 100000 in
set_option maxHeartbeats 4000000 in
theorem rot_any (g gcap a m b : Nat) (f : Value) (ys : List Nat) (T : TypeId) (w : World) (ham : a < m) (hmb : m < b) (hb : b ≤ ys.length) (hm : ys.length ≤ 1000000) (hg : Has w g (placeCells nd ys) T) :
    Calls Try.prog 97 #[.slice (some ⟨g, 0, none⟩) ys.length gcap, .int .i64 (a : Int), .int .i64 (m : Int), .int .i64 (b : Int), f] w fun e w' => e = .returned (.tuple #[]) ∧ ∃ zs, zs.length = ys.length ∧ (∀ p, zs.getD p 0 = rotG a m b ys p) ∧ SortL nd w g T zs w' := by
  have HG := Lib.hid hg
  clear hg
  generalize hlen : ys.length = l at *
  have HN := Lib.hid hlen; clear hlen
  go_enter Try.func97, Try.ntmps97
  go_wp2_with fail
  go_loopw [10, 11] (fun iv jv wr => ∃ (i j : Nat) (zs : List Nat), 1 ≤ i ∧ 1 ≤ j ∧ i ≤ m ∧ m + j ≤ l ∧ iv = .int .i64 (i : Int) ∧ jv = .int .i64 (j : Int) ∧ zs.length = l ∧ (∀ p, rotG (m - i) m (m + j) zs p = rotG a m b ys p) ∧ SortL nd w g T zs wr) (fun iv jv _ => (intOf iv).toNat + (intOf jv).toNat)
  case atStart => exact ⟨m - a, b - m, ys, by omega, by omega, by omega, by omega, by go_num, by go_num, HN.out, fun p => by rw [show m - (m - a) = a by omega, show m + (b - m) = b by omega], .of HG.out (But.refl _ _ _)⟩
  case round =>
    obtain ⟨i, j, zs, hi1, hj1, him, hjl, rfl, rfl, hzl, hrot, hl⟩ := hrel
    have HZL := Lib.hid hzl; have HROT := Lib.hid hrot; have HL := Lib.hid hl
    clear hzl hrot hl
    have d1 : (m : Int) - i = ((m - i : Nat) : Int) := by omega
    rcases Nat.lt_trichotomy i j with c1 | c1 | c1
    · have d2 : ((i : Int) != j) = true := by simp; omega
      have d3 : decide ((j : Int) < i) = false := by simp; omega
      have d4 : (m : Int) + j - i = ((m + j - i : Nat) : Int) := by omega
      have hsw := swaps_any g gcap (m - i) (m + j - i) i f zs T wr (by omega) (by rw [HZL.out]; omega) (by rw [HZL.out]; omega) HL.out.1
      rw [HZL.out] at hsw
      have HSW := Lib.hid hsw; clear hsw
      go_wp2_with fail
      refine HSW.out.mono ?_
      rintro e wx ⟨rfl, hl⟩
      have HX := Lib.hid (HL.out.trans hl); clear hl
      go_wp2_with fail
      go_roundw
      case rel => exact ⟨i, j - i, _, by omega, by omega, by omega, by omega, rfl, by go_num, by rw [swaps_length, HZL.out], fun p => by rw [rot_right c1 him (by rw [HZL.out]; omega), HROT.out], HX.out⟩
      case measure => simp [intOf]; omega
    · subst c1
      have d2 : ((i : Int) != i) = false := by simp
      have hsw := swaps_any g gcap (m - i) m i f zs T wr (by omega) (by rw [HZL.out]; omega) (by rw [HZL.out]; omega) HL.out.1
      rw [HZL.out] at hsw
      have HSW := Lib.hid hsw; clear hsw
      go_wp2_with fail
      refine HSW.out.mono ?_
      rintro e wx ⟨rfl, hl⟩
      have HX := Lib.hid (HL.out.trans hl); clear hl
      go_wp2_with fail
      go_end0
      exact ⟨rfl, _, by rw [swaps_length, HZL.out], fun p => by rw [rot_last him (by rw [HZL.out]; omega), HROT.out], HX.out⟩
    · have d2 : ((i : Int) != j) = true := by simp; omega
      have d3 : decide ((j : Int) < i) = true := by simp; omega
      have hsw := swaps_any g gcap (m - i) m j f zs T wr (by omega) (by rw [HZL.out]; omega) (by rw [HZL.out]; omega) HL.out.1
      rw [HZL.out] at hsw
      have HSW := Lib.hid hsw; clear hsw
      go_wp2_with fail
      refine HSW.out.mono ?_
      rintro e wx ⟨rfl, hl⟩
      have HX := Lib.hid (HL.out.trans hl); clear hl
      go_wp2_with fail
      go_roundw
      case rel => exact ⟨i - j, j, _, by omega, by omega, by omega, by omega, by go_num, rfl, by rw [swaps_length, HZL.out], fun p => by rw [rot_left c1 him (by rw [HZL.out]; omega), HROT.out], HX.out⟩
      case measure => simp [intOf]; omega
end Go.Proofs.Ytjcbphhemmdnjaa
namespace Go.Proofs.Ytjcbphhemmdnjaa
set_option linter.unusedSimpArgs false
set_option linter.unusedVariables false

/-- The order of two items: by their numbers, then by their places. -/
def LTo (os : List Int) (x y : Nat) : Prop := os.getD x 0 < os.getD y 0 ∨ (os.getD x 0 = os.getD y 0 ∧ x < y)
theorem LTo.trans {os : List Int} {x y z : Nat} (h : LTo os x y) (k : LTo os y z) : LTo os x z := by
  unfold LTo at *; omega
theorem LTo.of_le {os : List Int} {x y : Nat} (h : ¬ os.getD y 0 < os.getD x 0) (k : x < y) : LTo os x y := by
  unfold LTo; omega
theorem LTo.of_lt {os : List Int} {x y : Nat} (h : os.getD x 0 < os.getD y 0) : LTo os x y := .inl h
/-- Sorted, from a on as far as b. -/
def UpT (os : List Int) (ys : List Nat) (a b : Nat) : Prop := ∀ p q, a ≤ p → p < q → q < b → LTo os (ys.getD p 0) (ys.getD q 0)
/-- All left of m are smaller places than those right of it. -/
def SepT (ys : List Nat) (a m b : Nat) : Prop := ∀ p q, a ≤ p → p < m → m ≤ q → q < b → ys.getD p 0 < ys.getD q 0
/-- Only a part changed, and holds the same items. -/
def SameT (ys zs : List Nat) (a b : Nat) : Prop := (∀ p, ¬ (a ≤ p ∧ p < b) → zs.getD p 0 = ys.getD p 0) ∧ (∀ p, a ≤ p → p < b → ∃ q, a ≤ q ∧ q < b ∧ zs.getD p 0 = ys.getD q 0) ∧ (∀ q, a ≤ q → q < b → ∃ p, a ≤ p ∧ p < b ∧ zs.getD p 0 = ys.getD q 0)
theorem SameT.refl (ys : List Nat) (a b : Nat) : SameT ys ys a b := ⟨fun _ _ => rfl, fun p h1 h2 => ⟨p, h1, h2, rfl⟩, fun p h1 h2 => ⟨p, h1, h2, rfl⟩⟩
theorem SameT.trans {xs ys zs : List Nat} {a b : Nat} (h : SameT xs ys a b) (k : SameT ys zs a b) : SameT xs zs a b := by
  refine ⟨fun p hp => (k.1 p hp).trans (h.1 p hp), fun p h1 h2 => ?_, fun q h1 h2 => ?_⟩
  · obtain ⟨q, q1, q2, e⟩ := k.2.1 p h1 h2
    obtain ⟨r, r1, r2, f⟩ := h.2.1 q q1 q2
    exact ⟨r, r1, r2, e.trans f⟩
  · obtain ⟨p, p1, p2, e⟩ := h.2.2 q h1 h2
    obtain ⟨r, r1, r2, f⟩ := k.2.2 p p1 p2
    exact ⟨r, r1, r2, f.trans e⟩
theorem SameT.wide {ys zs : List Nat} {a b a' b' : Nat} (h : SameT ys zs a b) (ha : a' ≤ a) (hb : b ≤ b') : SameT ys zs a' b' := by
  refine ⟨fun p hp => h.1 p (by omega), fun p h1 h2 => ?_, fun q h1 h2 => ?_⟩
  · by_cases c : a ≤ p ∧ p < b
    · obtain ⟨q, q1, q2, e⟩ := h.2.1 p c.1 c.2
      exact ⟨q, by omega, by omega, e⟩
    · exact ⟨p, h1, h2, h.1 p c⟩
  · by_cases c : a ≤ q ∧ q < b
    · obtain ⟨p, q1, q2, e⟩ := h.2.2 q c.1 c.2
      exact ⟨p, by omega, by omega, e⟩
    · exact ⟨q, h1, h2, h.1 q c⟩
theorem rot_same {ys zs : List Nat} {s m e : Nat} (h : ∀ p, zs.getD p 0 = rotG s m e ys p) (h1 : s ≤ m) (h2 : m ≤ e) : SameT ys zs s e := by
  refine ⟨fun p hp => by rw [h, rotG, if_neg hp], fun p p1 p2 => ?_, fun q q1 q2 => ?_⟩
  · rw [h, rotG, if_pos ⟨p1, p2⟩]
    by_cases c : p < s + (e - m)
    · rw [if_pos c]; exact ⟨p - s + m, by omega, by omega, rfl⟩
    · rw [if_neg c]; exact ⟨p - (e - m), by omega, by omega, rfl⟩
  · by_cases c : q < m
    · refine ⟨q + (e - m), by omega, by omega, ?_⟩
      rw [h, rotG, if_pos (by omega), if_neg (by omega)]
      exact congrArg (fun q => ys.getD q 0) (by omega)
    · refine ⟨q - m + s, by omega, by omega, ?_⟩
      rw [h, rotG, if_pos (by omega), if_pos (by omega)]
      exact congrArg (fun q => ys.getD q 0) (by omega)
/-- Two halves sorted one by one, where all of the first come ahead of all of the second. -/
theorem halves_up {os : List Int} {xs ys zs : List Nat} {a c b : Nat} (hac : a ≤ c) (hcb : c ≤ b) (h1 : SameT xs ys a c) (u1 : UpT os ys a c) (h2 : SameT ys zs c b) (u2 : UpT os zs c b)
    (hx : ∀ p q, a ≤ p → p < c → c ≤ q → q < b → LTo os (xs.getD p 0) (xs.getD q 0)) : SameT xs zs a b ∧ UpT os zs a b := by
  refine ⟨(h1.wide (Nat.le_refl _) hcb).trans (h2.wide hac (Nat.le_refl _)), fun p q p1 pq qb => ?_⟩
  rcases Nat.lt_or_ge q c with c1 | c1
  · rw [h2.1 p (by omega), h2.1 q (by omega)]; exact u1 p q p1 pq c1
  · rcases Nat.lt_or_ge p c with c2 | c2
    · obtain ⟨q', q1, q2, e⟩ := h2.2.1 q c1 qb
      obtain ⟨p', p2, p3, f⟩ := h1.2.1 p p1 c2
      rw [h2.1 p (by omega), e, f, h1.1 q' (by omega)]
      exact hx p' q' p2 p3 q1 q2
    · exact u2 p q c2 pq qb
/-- Where the first halves end behind the rotation. -/
theorem rot_parts {os : List Int} {xs ys : List Nat} {a m b s e c : Nat} (h : ∀ p, ys.getD p 0 = rotG s m e xs p) (has : a ≤ s) (hsm : s ≤ m) (hme : m ≤ e) (heb : e ≤ b) (hc : c = s + (e - m)) (u1 : UpT os xs a m) (u2 : UpT os xs m b) (hsep : SepT xs a m b)
    (d1 : a < s → e < b → LTo os (xs.getD (s - 1) 0) (xs.getD e 0)) (d2 : s < m → m < e → LTo os (xs.getD (e - 1) 0) (xs.getD s 0)) :
    UpT os ys a s ∧ UpT os ys s c ∧ SepT ys a s c ∧ UpT os ys c e ∧ UpT os ys e b ∧ SepT ys c e b ∧ ∀ p q, a ≤ p → p < c → c ≤ q → q < b → LTo os (ys.getD p 0) (ys.getD q 0) := by
  have f1 : ∀ p, p < s → ys.getD p 0 = xs.getD p 0 := fun p hp => by rw [h, rotG, if_neg (by omega)]
  have f2 : ∀ p, s ≤ p → p < c → ys.getD p 0 = xs.getD (p - s + m) 0 := fun p hp hq => by rw [h, rotG, if_pos (by omega), if_pos (by omega)]
  have f3 : ∀ p, c ≤ p → p < e → ys.getD p 0 = xs.getD (p - (e - m)) 0 := fun p hp hq => by rw [h, rotG, if_pos (by omega), if_neg (by omega)]
  have f4 : ∀ p, e ≤ p → ys.getD p 0 = xs.getD p 0 := fun p hp => by rw [h, rotG, if_neg (by omega)]
  refine ⟨fun p q p1 pq q1 => ?_, fun p q p1 pq q1 => ?_, fun p q p1 p2 q1 q2 => ?_, fun p q p1 pq q1 => ?_, fun p q p1 pq q1 => ?_, fun p q p1 p2 q1 q2 => ?_, fun p q p1 p2 q1 q2 => ?_⟩
  · rw [f1 p (by omega), f1 q q1]; exact u1 p q p1 pq (by omega)
  · rw [f2 p p1 (by omega), f2 q (by omega) q1]; exact u2 _ _ (by omega) (by omega) (by omega)
  · rw [f1 p p2, f2 q q1 q2]; exact hsep _ _ p1 (by omega) (by omega) (by omega)
  · rw [f3 p p1 (by omega), f3 q (by omega) q1]; exact u1 _ _ (by omega) (by omega) (by omega)
  · rw [f4 p p1, f4 q (by omega)]; exact u2 _ _ (by omega) pq q1
  · rw [f3 p p1 p2, f4 q q1]; exact hsep _ _ (by omega) (by omega) (by omega) q2
  · rcases Nat.lt_or_ge p s with c1 | c1 <;> rcases Nat.lt_or_ge q e with c2 | c2
    · rw [f1 p c1, f3 q q1 c2]; exact u1 _ _ p1 (by omega) (by omega)
    · rw [f1 p c1, f4 q c2]
      have g := d1 (by omega) (by omega)
      have g1 : LTo os (xs.getD p 0) (xs.getD e 0) := by
        by_cases k : p = s - 1
        · rw [k]; exact g
        · exact (u1 p (s - 1) p1 (by omega) (by omega)).trans g
      by_cases k : q = e
      · rw [k]; exact g1
      · exact g1.trans (u2 e q (by omega) (by omega) q2)
    · rw [f2 p c1 p2, f3 q q1 c2]
      have g := d2 (by omega) (by omega)
      have g1 : LTo os (xs.getD (p - s + m) 0) (xs.getD s 0) := by
        by_cases k : p - s + m = e - 1
        · rw [k]; exact g
        · exact (u2 (p - s + m) (e - 1) (by omega) (by omega) (by omega)).trans g
      by_cases k : q - (e - m) = s
      · rw [k]; exact g1
      · exact g1.trans (u1 s (q - (e - m)) (by omega) (by omega) (by omega))
    · rw [f2 p c1 p2, f4 q c2]; exact u2 _ _ (by omega) (by omega) q2
end Go.Proofs.Ytjcbphhemmdnjaa
namespace Go.Proofs.Ytjcbphhemmdnjaa
open Go.RowKit
set_option linter.unusedSimpArgs false
set_option linter.unusedVariables false
-- below_from_drew
attribute [local go_sem] ov_cell_same ov_cell_other ov_frozen_same ov_frozen_other ov_size ov_setCell_same ov_setCell_other cell_alloc_old frozen_alloc_old setCell_alloc_old old_alloc old_ov old_drew old_drewN old_setCell
variable {nd : Lbl}
theorem one_left {os : List Int} {xs zs : List Nat} {a e hi : Nat} (h : ∀ p, zs.getD p 0 = rotG a (a + 1) e xs p) (h1 : a + 1 ≤ e) (h2 : e ≤ hi) (u2 : UpT os xs (a + 1) hi) (d2 : a + 1 < e → LTo os (xs.getD (e - 1) 0) (xs.getD a 0)) (d3 : e < hi → LTo os (xs.getD a 0) (xs.getD e 0)) : SameT xs zs a hi ∧ UpT os zs a hi := by
  have f2 : ∀ p, a ≤ p → p < e - 1 → zs.getD p 0 = xs.getD (p + 1) 0 := fun p hp hq => by rw [h, rotG, if_pos (by omega), if_pos (by omega)]; exact congrArg (fun q => xs.getD q 0) (by omega)
  have f3 : zs.getD (e - 1) 0 = xs.getD a 0 := by rw [h, rotG, if_pos (by omega), if_neg (by omega)]; exact congrArg (fun q => xs.getD q 0) (by omega)
  have f4 : ∀ p, e ≤ p → zs.getD p 0 = xs.getD p 0 := fun p hp => by rw [h, rotG, if_neg (by omega)]
  refine ⟨(rot_same h (by omega) h1).wide (Nat.le_refl _) h2, fun p q p1 pq q1 => ?_⟩
  have hl : ∀ q, e ≤ q → q < hi → LTo os (xs.getD a 0) (xs.getD q 0) := fun q q2 q3 => by
    by_cases k : q = e
    · rw [k]; exact d3 (by omega)
    · exact (d3 (by omega)).trans (u2 e q (by omega) (by omega) q3)
  have hr : ∀ p, a + 1 ≤ p → p < e → LTo os (xs.getD p 0) (xs.getD a 0) := fun p p2 p3 => by
    by_cases k : p = e - 1
    · rw [k]; exact d2 (by omega)
    · exact (u2 p (e - 1) p2 (by omega) (by omega)).trans (d2 (by omega))
  rcases Nat.lt_trichotomy q (e - 1) with c | c | c
  · rw [f2 p p1 (by omega), f2 q (by omega) c]; exact u2 _ _ (by omega) (by omega) (by omega)
  · subst c; rw [f2 p p1 (by omega), f3]; exact hr _ (by omega) (by omega)
  · rw [f4 q (by omega)]
    rcases Nat.lt_trichotomy p (e - 1) with k | k | k
    · rw [f2 p p1 k]; exact u2 _ _ (by omega) (by omega) q1
    · subst k; rw [f3]; exact hl q (by omega) q1
    · rw [f4 p (by omega)]; exact u2 _ _ (by omega) pq q1
theorem one_right {os : List Int} {xs zs : List Nat} {a s m : Nat} (h : ∀ p, zs.getD p 0 = rotG s m (m + 1) xs p) (h1 : a ≤ s) (h2 : s ≤ m) (u1 : UpT os xs a m) (d1 : a < s → LTo os (xs.getD (s - 1) 0) (xs.getD m 0)) (d2 : s < m → LTo os (xs.getD m 0) (xs.getD s 0)) : SameT xs zs a (m + 1) ∧ UpT os zs a (m + 1) := by
  have f1 : ∀ p, p < s → zs.getD p 0 = xs.getD p 0 := fun p hp => by rw [h, rotG, if_neg (by omega)]
  have f2 : zs.getD s 0 = xs.getD m 0 := by rw [h, rotG, if_pos (by omega), if_pos (by omega)]; exact congrArg (fun q => xs.getD q 0) (by omega)
  have f3 : ∀ p, s < p → p < m + 1 → zs.getD p 0 = xs.getD (p - 1) 0 := fun p hp hq => by rw [h, rotG, if_pos (by omega), if_neg (by omega)]; exact congrArg (fun q => xs.getD q 0) (by omega)
  refine ⟨(rot_same h h2 (by omega)).wide h1 (Nat.le_refl _), fun p q p1 pq q1 => ?_⟩
  have hl : ∀ p, a ≤ p → p < s → LTo os (xs.getD p 0) (xs.getD m 0) := fun p p2 p3 => by
    by_cases k : p = s - 1
    · rw [k]; exact d1 (by omega)
    · exact (u1 p (s - 1) p2 (by omega) (by omega)).trans (d1 (by omega))
  have hr : ∀ q, s ≤ q → q < m → LTo os (xs.getD m 0) (xs.getD q 0) := fun q q2 q3 => by
    by_cases k : q = s
    · rw [k]; exact d2 (by omega)
    · exact (d2 (by omega)).trans (u1 s q (by omega) (by omega) q3)
  rcases Nat.lt_trichotomy p s with c | c | c
  · rw [f1 p c]
    rcases Nat.lt_trichotomy q s with k | k | k
    · rw [f1 q k]; exact u1 _ _ p1 pq (by omega)
    · subst k; rw [f2]; exact hl p p1 c
    · rw [f3 q k q1]; exact u1 _ _ p1 (by omega) (by omega)
  · subst c; rw [f2, f3 q pq q1]; exact hr _ (by omega) (by omega)
  · rw [f3 p c (by omega), f3 q (by omega) q1]; exact u1 _ _ (by omega) (by omega) (by omega)
theorem rot_grow {xs zs : List Nat} {a k : Nat} (h : ∀ p, zs.getD p 0 = rotG a (a + 1) (k + 1) xs p) (h1 : a ≤ k) (h2 : k + 1 < zs.length) (p : Nat) : (swp k (k + 1) zs).getD p 0 = rotG a (a + 1) (k + 1 + 1) xs p := by
  rw [swp_at (by omega) h2, h, h, h]
  unfold rotG
  repeat' split
  all_goals first | omega | (refine congrArg (fun q => xs.getD q 0) ?_; omega)
theorem rot_back {xs zs : List Nat} {m k : Nat} (h : ∀ p, zs.getD p 0 = rotG (k + 1) m (m + 1) xs p) (h1 : k + 1 ≤ m) (h2 : k + 1 < zs.length) (p : Nat) : (swp (k + 1) k zs).getD p 0 = rotG k m (m + 1) xs p := by
  rw [swp_at h2 (by omega), h, h, h]
  unfold rotG
  repeat' split
  all_goals first | omega | (refine congrArg (fun q => xs.getD q 0) ?_; omega)
theorem rot_nil {ys : List Nat} {a m : Nat} (p : Nat) : ys.getD p 0 = rotG a m m ys p := by
  unfold rotG
  repeat' split
  all_goals first | rfl | omega | (refine congrArg (fun q => ys.getD q 0) ?_; omega)
theorem cmpZ_neg (x y : Int) : cmpZ x y < 0 ↔ x < y := by unfold cmpZ; split <;> (try split) <;> omega
/-- The search for the place of the item at a. -/
def SrchA (os : List Int) (ys : List Nat) (a m hi : Nat) (w : World) (iv jv : Value) (wr : World) : Prop :=
  ∃ (i j : Nat), m ≤ i ∧ i ≤ j ∧ j ≤ hi ∧ iv = .int .i64 (i : Int) ∧ jv = .int .i64 (j : Int) ∧ (m < i → os.getD (ys.getD (i - 1) 0) 0 < os.getD (ys.getD a 0) 0) ∧ (j < hi → ¬ os.getD (ys.getD j 0) 0 < os.getD (ys.getD a 0) 0) ∧ Below w.heap.size w wr
def InR (n : Nat) (ys : List Nat) : Prop := ∀ p, p < ys.length → ys.getD p 0 < n
set_option maxRecDepth 100000 in
set_option maxHeartbeats 4000000 in
theorem symA_any (p g gcap a m hi : Nat) (os : List Int) (ys : List Nat) (T : TypeId) (w : World) (hma : m = a + 1) (hab : m < hi) (hhi : hi ≤ ys.length) (hmx : ys.length ≤ 1000000) (hin : InR os.length ys) (ho : OrdIn nd p g os w) (hg : Has w g (placeCells nd ys) T)
    (u2 : UpT os ys m hi) (hsep : SepT ys a m hi) :
    Calls Try.prog 93 #[.slice (some ⟨g, 0, none⟩) ys.length gcap, .int .i64 (a : Int), .int .i64 (m : Int), .int .i64 (hi : Int), .func (Fn.func 62) #[] #[.pointer (some ⟨p, 0, none⟩)]] w fun e w' => e = .returned (.tuple #[]) ∧ ∃ zs, zs.length = ys.length ∧ (SameT ys zs a hi ∧ UpT os zs a hi) ∧ SortL nd w g T zs w' := by
  have HG := Lib.hid hg; have HIN := Lib.hid hin; have HO := Lib.hid ho; have HU := Lib.hid u2; have HS := Lib.hid hsep; have HGL := hg.lt
  clear hg hin ho u2 hsep
  generalize hlen : ys.length = l at *
  have HN := Lib.hid hlen; clear hlen
  have d1 : (m : Int) - a = 1 := by omega
  have hm1 : m ≤ a + 1 := by omega
  have hm2 : a < m := by omega
  have HMA := Lib.hid hma; clear hma
  go_enter Try.func93, Try.ntmps93
  go_wp2_with fail
  go_loopw [10, 11] (fun iv jv wr => SrchA os ys a m hi w iv jv wr) (fun iv jv _ => (intOf jv).toNat - (intOf iv).toNat)
  case atStart => unfold SrchA; exact ⟨m, hi, by omega, by omega, by omega, rfl, rfl, fun h => by omega, fun h => by omega, Below.refl _ _⟩
  case round =>
    unfold SrchA at hrel
    obtain ⟨i, j, hi1, hij, hjh, rfl, rfl, hd2, hd3, hbw⟩ := hrel
    have HD2 := Lib.hid hd2; have HD3 := Lib.hid hd3; have HBW := Lib.hid hbw
    have hsz := hbw.size
    clear hd2 hd3
    rcases Nat.lt_or_ge i j with c1 | c1
    · have c2 : (i : Int) < j := by omega
      obtain ⟨h, hh, h1, h2⟩ : ∃ h : Nat, ((i : Int) + j) / 2 = (h : Int) ∧ i ≤ h ∧ h < j := ⟨(i + j) / 2, by omega, by omega, by omega⟩
      have hL : SortL nd w g T ys wr := (SortL.of HG.out (But.refl _ _ _)).below hbw
      have k1 := has_cell hL.1 (placeCells_get (nd := nd) (ys := ys) (j := h) (by rw [HN.out]; omega))
      have k0 := has_cell hL.1 (placeCells_get (nd := nd) (ys := ys) (j := a) (by rw [HN.out]; omega))
      have m1 := HIN.out h (by rw [HN.out]; omega)
      have m0 := HIN.out a (by rw [HN.out]; omega)
      have HO2 := Lib.hid (HO.out.below hbw)
      have hless := fun W (hB : Below wr.heap.size wr W) => (HO2.out.below hB).less m1 m0
      have HLESS := Lib.hid hless
      have l1 := hL.1.lt
      have c5 : (h : Int) < l := by omega
      have c6 : (a : Int) < l := by omega
      clear hless hL hbw m1 m0
      generalize hX : ys.getD h 0 = X at *
      generalize hY : ys.getD a 0 = Y at *
      have HX := Lib.hid hX; have HY := Lib.hid hY
      clear hX hY
      have hcmp := cmpZ_neg (os.getD X 0) (os.getD Y 0)
      have HCMP := Lib.hid hcmp; clear hcmp
      generalize cmpZ (os.getD X 0) (os.getD Y 0) = z at *
      rcases Int.lt_or_le z 0 with c7 | c7
      · go_wp2_with fail
        refine region_ord [(0, 0), (1, 0), (2, 0), (3, 0), (4, 0), (5, 0), (6, 0), (7, 0), (8, 0), (9, 1), (10, 0)] (by kernel_rfl) (by kernel_rfl) (fun _ _ d _ _ h => by cases d <;> exact h) (fun hS => ?_)
        (refine wpG_read (v := ?_) rfl (.inl ⟨by rfl, fun wx hbx => ?_⟩) ?_; rotate_left; (focus (obtain ⟨cx0, fx0, zx0⟩ := bk hbx (g) (by first | omega | (simp; done) | (simp; omega)); go_simp; (try go_bits); (try with_reducible rfl))); try simp only [Act.put, List.setIfInBounds_toArray, List.set_cons_zero, List.set_cons_succ])
        (refine wpG_read (v := ?_) rfl (.inl ⟨by rfl, fun wx hbx => ?_⟩) ?_; rotate_left; (focus (obtain ⟨cx0, fx0, zx0⟩ := bk hbx (g) (by first | omega | (simp; done) | (simp; omega)); go_simp; (try go_bits); (try with_reducible rfl))); try simp only [Act.put, List.setIfInBounds_toArray, List.set_cons_zero, List.set_cons_succ])
        (refine wpG_read (v := ?_) rfl (.inl ⟨by rfl, fun wx hbx => ?_⟩) ?_; rotate_left; (focus (obtain ⟨cx0, fx0, zx0⟩ := bk hbx (g) (by first | omega | (simp; done) | (simp; omega)); go_simp; (try go_bits); (try with_reducible rfl))); try simp only [Act.put, List.setIfInBounds_toArray, List.set_cons_zero, List.set_cons_succ])
        (refine wpG_read (v := ?_) rfl (.inl ⟨by rfl, fun wx hbx => ?_⟩) ?_; rotate_left; (focus (obtain ⟨cx0, fx0, zx0⟩ := bk hbx (g) (by first | omega | (simp; done) | (simp; omega)); go_simp; (try go_bits); (try with_reducible rfl))); try simp only [Act.put, List.setIfInBounds_toArray, List.set_cons_zero, List.set_cons_succ])
        (refine wpG_read (v := ?_) rfl (.inl ⟨by rfl, fun wx hbx => ?_⟩) ?_; rotate_left; (focus (obtain ⟨cx0, fx0, zx0⟩ := bk hbx (g) (by first | omega | (simp; done) | (simp; omega)); go_simp; (try go_bits); (try with_reducible rfl))); try simp only [Act.put, List.setIfInBounds_toArray, List.set_cons_zero, List.set_cons_succ])
        (refine wpG_read (v := ?_) rfl (.inl ⟨by rfl, fun wx hbx => ?_⟩) ?_; rotate_left; (focus (obtain ⟨cx0, fx0, zx0⟩ := bk hbx (g) (by first | omega | (simp; done) | (simp; omega)); go_simp; (try go_bits); (try with_reducible rfl))); try simp only [Act.put, List.setIfInBounds_toArray, List.set_cons_zero, List.set_cons_succ])
        (refine wpG_read (v := ?_) rfl (.inl ⟨by rfl, fun wx hbx => ?_⟩) ?_; rotate_left; (focus (obtain ⟨cx0, fx0, zx0⟩ := bk hbx (g) (by first | omega | (simp; done) | (simp; omega)); go_simp; (try go_bits); (try with_reducible rfl))); try simp only [Act.put, List.setIfInBounds_toArray, List.set_cons_zero, List.set_cons_succ])
        (refine wpG_read (v := ?_) rfl (.inl ⟨by rfl, fun wx hbx => ?_⟩) ?_; rotate_left; (focus (obtain ⟨cx0, fx0, zx0⟩ := bk hbx (g) (by first | omega | (simp; done) | (simp; omega)); go_simp; (try go_bits); (try with_reducible rfl))); try simp only [Act.put, List.setIfInBounds_toArray, List.set_cons_zero, List.set_cons_succ])
        (refine wpG_read (v := ?_) rfl (.inl ⟨by rfl, fun wx hbx => ?_⟩) ?_; rotate_left; (focus (obtain ⟨cx0, fx0, zx0⟩ := bk hbx (g) (by first | omega | (simp; done) | (simp; omega)); go_simp; (try go_bits); (try with_reducible rfl))); try simp only [Act.put, List.setIfInBounds_toArray, List.set_cons_zero, List.set_cons_succ])
        (refine wpG_make rfl (fun K hK => ?_); go_simp; (go_at_call 62; (with_reducible refine (HLESS.out _ (by (repeat' (first | (with_reducible exact Below.refl _ _) | (with_reducible assumption) | (with_reducible refine below_from_drew ?_) | (with_reducible refine Below.alloc ?_ ?_ _) | (with_reducible refine Below.drew ?_) | (with_reducible refine below_drewN ?_ _) | (with_reducible refine Below.setCell ?_ ?_ _) | (with_reducible refine below_via ?_ (by assumption) ?_) | (with_reducible refine below_ov ?_ ?_ _ _) | go_size)))).mono ?_); rintro e u5 ⟨rfl, hb⟩; have hz := hb.size; refine (fun hB => ?_ : Below wr.heap.size wr u5 → _) ?_; rotate_left; (focus ((repeat' (first | (with_reducible exact Below.refl _ _) | (with_reducible assumption) | (with_reducible refine below_from_drew ?_) | (with_reducible refine Below.alloc ?_ ?_ _) | (with_reducible refine Below.drew ?_) | (with_reducible refine below_drewN ?_ _) | (with_reducible refine Below.setCell ?_ ?_ _) | (with_reducible refine below_via ?_ (by assumption) ?_) | (with_reducible refine below_ov ?_ ?_ _ _) | go_size)); done)); (try simp only [World.size_alloc, World.size_setCell, World.size_drew, ov_size] at hz)); (try simp only []); refine hK _ _ ?_ (fun hS2 => ?_); (focus ((repeat' (first | (with_reducible exact Below.refl _ _) | (with_reducible assumption) | (with_reducible refine below_from_drew ?_) | (with_reducible refine Below.alloc ?_ ?_ _) | (with_reducible refine Below.drew ?_) | (with_reducible refine below_drewN ?_ _) | (with_reducible refine Below.setCell ?_ ?_ _) | (with_reducible refine below_via ?_ (by assumption) ?_) | (with_reducible refine below_ov ?_ ?_ _ _) | go_size)); done)); clear hK K hS; have hS := hS2; clear hS2; (try clear hb); try simp only [Act.put, List.setIfInBounds_toArray, List.set_cons_zero, List.set_cons_succ])
        (refine wpG_read (v := ?_) rfl (.inl ⟨by rfl, fun wx hbx => ?_⟩) ?_; rotate_left; (focus (obtain ⟨cx0, fx0, zx0⟩ := bk hbx (g) (by first | omega | (simp; done) | (simp; omega)); go_simp; (try go_bits); (try with_reducible rfl))); try simp only [Act.put, List.setIfInBounds_toArray, List.set_cons_zero, List.set_cons_succ])
        refine wpG_nil ?_
        go_wp2_with fail
        go_roundw
        case rel => unfold SrchA; exact ⟨h + 1, j, by omega, by omega, by omega, by go_num, rfl, fun _ => by rw [Nat.add_sub_cancel, HX.out, HY.out]; exact HCMP.out.1 c7, fun hq => by rw [HY.out]; exact Int.not_lt.2 (HD3.out hq), by have q := HBW.out; (repeat' (first | (with_reducible exact Below.refl _ _) | (with_reducible assumption) | (with_reducible refine below_from_drew ?_) | (with_reducible refine Below.alloc ?_ ?_ _) | (with_reducible refine Below.drew ?_) | (with_reducible refine below_drewN ?_ _) | (with_reducible refine Below.setCell ?_ ?_ _) | (with_reducible refine below_via ?_ (by assumption) ?_) | (with_reducible refine below_ov ?_ ?_ _ _) | go_size))⟩
        case measure => simp [intOf]; omega
      · have c11 : decide (z < 0) = false := by simp; omega
        go_wp2_with fail
        refine region_ord [(0, 0), (1, 0), (2, 0), (3, 0), (4, 0), (5, 0), (6, 0), (7, 0), (8, 0), (9, 1), (10, 0)] (by kernel_rfl) (by kernel_rfl) (fun _ _ d _ _ h => by cases d <;> exact h) (fun hS => ?_)
        (refine wpG_read (v := ?_) rfl (.inl ⟨by rfl, fun wx hbx => ?_⟩) ?_; rotate_left; (focus (obtain ⟨cx0, fx0, zx0⟩ := bk hbx (g) (by first | omega | (simp; done) | (simp; omega)); go_simp; (try go_bits); (try with_reducible rfl))); try simp only [Act.put, List.setIfInBounds_toArray, List.set_cons_zero, List.set_cons_succ])
        (refine wpG_read (v := ?_) rfl (.inl ⟨by rfl, fun wx hbx => ?_⟩) ?_; rotate_left; (focus (obtain ⟨cx0, fx0, zx0⟩ := bk hbx (g) (by first | omega | (simp; done) | (simp; omega)); go_simp; (try go_bits); (try with_reducible rfl))); try simp only [Act.put, List.setIfInBounds_toArray, List.set_cons_zero, List.set_cons_succ])
        (refine wpG_read (v := ?_) rfl (.inl ⟨by rfl, fun wx hbx => ?_⟩) ?_; rotate_left; (focus (obtain ⟨cx0, fx0, zx0⟩ := bk hbx (g) (by first | omega | (simp; done) | (simp; omega)); go_simp; (try go_bits); (try with_reducible rfl))); try simp only [Act.put, List.setIfInBounds_toArray, List.set_cons_zero, List.set_cons_succ])
        (refine wpG_read (v := ?_) rfl (.inl ⟨by rfl, fun wx hbx => ?_⟩) ?_; rotate_left; (focus (obtain ⟨cx0, fx0, zx0⟩ := bk hbx (g) (by first | omega | (simp; done) | (simp; omega)); go_simp; (try go_bits); (try with_reducible rfl))); try simp only [Act.put, List.setIfInBounds_toArray, List.set_cons_zero, List.set_cons_succ])
        (refine wpG_read (v := ?_) rfl (.inl ⟨by rfl, fun wx hbx => ?_⟩) ?_; rotate_left; (focus (obtain ⟨cx0, fx0, zx0⟩ := bk hbx (g) (by first | omega | (simp; done) | (simp; omega)); go_simp; (try go_bits); (try with_reducible rfl))); try simp only [Act.put, List.setIfInBounds_toArray, List.set_cons_zero, List.set_cons_succ])
        (refine wpG_read (v := ?_) rfl (.inl ⟨by rfl, fun wx hbx => ?_⟩) ?_; rotate_left; (focus (obtain ⟨cx0, fx0, zx0⟩ := bk hbx (g) (by first | omega | (simp; done) | (simp; omega)); go_simp; (try go_bits); (try with_reducible rfl))); try simp only [Act.put, List.setIfInBounds_toArray, List.set_cons_zero, List.set_cons_succ])
        (refine wpG_read (v := ?_) rfl (.inl ⟨by rfl, fun wx hbx => ?_⟩) ?_; rotate_left; (focus (obtain ⟨cx0, fx0, zx0⟩ := bk hbx (g) (by first | omega | (simp; done) | (simp; omega)); go_simp; (try go_bits); (try with_reducible rfl))); try simp only [Act.put, List.setIfInBounds_toArray, List.set_cons_zero, List.set_cons_succ])
        (refine wpG_read (v := ?_) rfl (.inl ⟨by rfl, fun wx hbx => ?_⟩) ?_; rotate_left; (focus (obtain ⟨cx0, fx0, zx0⟩ := bk hbx (g) (by first | omega | (simp; done) | (simp; omega)); go_simp; (try go_bits); (try with_reducible rfl))); try simp only [Act.put, List.setIfInBounds_toArray, List.set_cons_zero, List.set_cons_succ])
        (refine wpG_read (v := ?_) rfl (.inl ⟨by rfl, fun wx hbx => ?_⟩) ?_; rotate_left; (focus (obtain ⟨cx0, fx0, zx0⟩ := bk hbx (g) (by first | omega | (simp; done) | (simp; omega)); go_simp; (try go_bits); (try with_reducible rfl))); try simp only [Act.put, List.setIfInBounds_toArray, List.set_cons_zero, List.set_cons_succ])
        (refine wpG_make rfl (fun K hK => ?_); go_simp; (go_at_call 62; (with_reducible refine (HLESS.out _ (by (repeat' (first | (with_reducible exact Below.refl _ _) | (with_reducible assumption) | (with_reducible refine below_from_drew ?_) | (with_reducible refine Below.alloc ?_ ?_ _) | (with_reducible refine Below.drew ?_) | (with_reducible refine below_drewN ?_ _) | (with_reducible refine Below.setCell ?_ ?_ _) | (with_reducible refine below_via ?_ (by assumption) ?_) | (with_reducible refine below_ov ?_ ?_ _ _) | go_size)))).mono ?_); rintro e u5 ⟨rfl, hb⟩; have hz := hb.size; refine (fun hB => ?_ : Below wr.heap.size wr u5 → _) ?_; rotate_left; (focus ((repeat' (first | (with_reducible exact Below.refl _ _) | (with_reducible assumption) | (with_reducible refine below_from_drew ?_) | (with_reducible refine Below.alloc ?_ ?_ _) | (with_reducible refine Below.drew ?_) | (with_reducible refine below_drewN ?_ _) | (with_reducible refine Below.setCell ?_ ?_ _) | (with_reducible refine below_via ?_ (by assumption) ?_) | (with_reducible refine below_ov ?_ ?_ _ _) | go_size)); done)); (try simp only [World.size_alloc, World.size_setCell, World.size_drew, ov_size] at hz)); (try simp only []); refine hK _ _ ?_ (fun hS2 => ?_); (focus ((repeat' (first | (with_reducible exact Below.refl _ _) | (with_reducible assumption) | (with_reducible refine below_from_drew ?_) | (with_reducible refine Below.alloc ?_ ?_ _) | (with_reducible refine Below.drew ?_) | (with_reducible refine below_drewN ?_ _) | (with_reducible refine Below.setCell ?_ ?_ _) | (with_reducible refine below_via ?_ (by assumption) ?_) | (with_reducible refine below_ov ?_ ?_ _ _) | go_size)); done)); clear hK K hS; have hS := hS2; clear hS2; (try clear hb); try simp only [Act.put, List.setIfInBounds_toArray, List.set_cons_zero, List.set_cons_succ])
        (refine wpG_read (v := ?_) rfl (.inl ⟨by rfl, fun wx hbx => ?_⟩) ?_; rotate_left; (focus (obtain ⟨cx0, fx0, zx0⟩ := bk hbx (g) (by first | omega | (simp; done) | (simp; omega)); go_simp; (try go_bits); (try with_reducible rfl))); try simp only [Act.put, List.setIfInBounds_toArray, List.set_cons_zero, List.set_cons_succ])
        refine wpG_nil ?_
        go_wp2_with fail
        go_roundw
        case rel => unfold SrchA; exact ⟨i, h, by omega, by omega, by omega, rfl, by go_num, fun hq => by rw [HY.out]; exact HD2.out hq, fun _ => by rw [HX.out, HY.out, ← HCMP.out]; omega, by have q := HBW.out; (repeat' (first | (with_reducible exact Below.refl _ _) | (with_reducible assumption) | (with_reducible refine below_from_drew ?_) | (with_reducible refine Below.alloc ?_ ?_ _) | (with_reducible refine Below.drew ?_) | (with_reducible refine below_drewN ?_ _) | (with_reducible refine Below.setCell ?_ ?_ _) | (with_reducible refine below_via ?_ (by assumption) ?_) | (with_reducible refine below_ov ?_ ?_ _ _) | go_size))⟩
        case measure => simp [intOf]; omega
    · obtain rfl : i = j := by omega
      have c2 : decide ((i : Int) < i) = false := by simp
      have c3 : (i : Int) - 1 = ((i - 1 : Nat) : Int) := by omega
      have hL : SortL nd w g T ys wr := (SortL.of HG.out (But.refl _ _ _)).below hbw
      have HL0 := Lib.hid hL
      clear hbw hL
      go_wp2_with fail
      go_loopw [13] (fun kv wr => ∃ (k : Nat) (zs : List Nat), a ≤ k ∧ k + 1 ≤ i ∧ kv = .int .i64 (k : Int) ∧ zs.length = l ∧ (∀ p, zs.getD p 0 = rotG a (a + 1) (k + 1) ys p) ∧ SortL nd w g T zs wr) (fun kv _ => i - (intOf kv).toNat)
      case atStart => exact ⟨a, ys, by omega, by omega, rfl, HN.out, rot_nil, HL0.out⟩
      case round =>
        obtain ⟨k, zs, hk1, hk2, rfl, hzl, hrot, hl⟩ := hrel
        have HZL := Lib.hid hzl; have HROT := Lib.hid hrot; have HL := Lib.hid hl
        have l1 := hl.1.lt
        clear hzl hrot hl
        rcases Nat.lt_or_ge (k + 1) i with c4 | c4
        · have c5 : (k : Int) < ((i - 1 : Nat) : Int) := by omega
          have c6 : (k : Int) + 1 < l := by omega
          have c7 : (k : Int) < l := by omega
          have c8 : (0 : Int) ≤ (k : Int) + 1 := by omega
          have g1 := placeCells_get (nd := nd) (ys := zs) (j := k) (by rw [HZL.out]; omega)
          have g2 := placeCells_get (nd := nd) (ys := zs) (j := k + 1) (by rw [HZL.out]; omega)
          have hst := HL.out.store (zs := swp k (k + 1) zs)
          rw [← placeCells_swp (nd := nd) (by first | (rw [HZL.out]; omega) | (rw [hsl, HN.out]; omega)) (by first | (rw [HZL.out]; omega) | (rw [hsl, HN.out]; omega))] at hst
          have HST := Lib.hid hst
          have hs5 := ov_self HL.out.1
          have HG2 := Lib.hid (rot_grow HROT.out hk1 (by rw [HZL.out]; omega))
          have hsl := Lib.hid (swp_length k (k + 1) zs)
          clear hst
          generalize swp k (k + 1) zs = us at *
          generalize zs.getD k 0 = X at *
          generalize zs.getD (k + 1) 0 = Y at *
          rw [← hs5]; clear hs5
          go_wp2_with fail
          have mixed : Try.prog.follows .mixedOrders = true := by kernel_rfl
          go_big_region_o
          clear mixed
          go_wp2_with fail
          go_roundw
          case rel => exact ⟨k + 1, us, by omega, by omega, by go_num, by rw [hsl.out, HZL.out], HG2.out, HST.out.below (by (repeat' (first | (with_reducible exact Below.refl _ _) | (with_reducible assumption) | (with_reducible refine below_from_drew ?_) | (with_reducible refine Below.alloc ?_ ?_ _) | (with_reducible refine Below.drew ?_) | (with_reducible refine below_drewN ?_ _) | (with_reducible refine Below.setCell ?_ ?_ _) | (with_reducible refine below_via ?_ (by assumption) ?_) | (with_reducible refine below_ov ?_ ?_ _ _) | go_size)))⟩
          case measure => simp [intOf]; omega
        · obtain rfl : i = k + 1 := by omega
          have c5 : decide ((k : Int) < ((k + 1 - 1 : Nat) : Int)) = false := by simp
          go_wp2_with fail
          refine bodyPost_ret (by simp [results, Try.results93, go_sem]; try rfl) rfl ?_
          obtain rfl := HMA.out
          exact ⟨rfl, zs, HZL.out, one_left HROT.out (by omega) (by omega) HU.out (fun hq => .of_lt (HD2.out hq)) (fun hq => .of_le (Int.not_lt.2 (HD3.out hq)) (HS.out a (k + 1) (by omega) (by omega) (by omega) hq)), HL.out⟩
end Go.Proofs.Ytjcbphhemmdnjaa
