/- law26 (stack): the painter's own functions: z, box, context by contract. law26 (stack): painter.context by contract. -/
import Derived.Test.YtjcbphhemmdnjaaStkR
import Derived.Test.YtjcbphhemmdnjaaRegion
import Derived.Test.YtjcbphhemmdnjaaPh2
import Derived.Deep.MidRow
import Derived.Deep.DeepCutAuto
namespace Go.Proofs.Ytjcbphhemmdnjaa
open Go Go.RowKit
set_option linter.unusedSimpArgs false
set_option linter.unusedVariables false
-- below_from_drew
attribute [local go_sem] ov_cell_same ov_cell_other ov_frozen_same ov_frozen_other ov_size ov_setCell_same ov_setCell_other cell_alloc_old frozen_alloc_old setCell_alloc_old old_alloc old_ov old_drew old_drewN old_setCell
attribute [local go_sem ↓] run_max2 run_min2
theorem bigl_xl {ρ : Operand → Value} {d : Option Tmp} {t : TypeId} {x : Operand} {po : String} {af : Array Edge} {g : Option (Nat × Bool)} (w : World) : (execOp ρ ⟨d, .load 77 x, t, po, af, g⟩).run Try.prog w = runLoad Try.prog 77 (ρ x) w := exec_load w
theorem bigl_xs {ρ : Operand → Value} {d : Option Tmp} {t : TypeId} {x y : Operand} {po : String} {af : Array Edge} {g : Option (Nat × Bool)} (w : World) : (execOp ρ ⟨d, .store 77 x y, t, po, af, g⟩).run Try.prog w = runStore Try.prog 77 (ρ x) (ρ y) w := exec_store w
theorem bigl_l (w : World) (b : Nat) (h : (blkCells w b).size = 64) : runLoad Try.prog 77 (.pointer (some ⟨b, 0, none⟩)) w = .ok (.value (.agg (blkCells w b))) w := runLoad_blk Try.underlying77 rfl (by kernel_rfl) (by omega) w b h
theorem bigl_s (w : World) (b : Nat) (l : List Value) (h : (blkCells w b).size = 64) (hl : l.length = 64) (h1 : allOne l = true) : runStore Try.prog 77 (.pointer (some ⟨b, 0, none⟩)) (.agg l.toArray) w = .ok .skip (putBlk w b l.toArray) := runStore_blk (by kernel_rfl) (by omega) w b l h hl h1
theorem bigs_xl {ρ : Operand → Value} {d : Option Tmp} {t : TypeId} {x : Operand} {po : String} {af : Array Edge} {g : Option (Nat × Bool)} (w : World) : (execOp ρ ⟨d, .load 74 x, t, po, af, g⟩).run Try.prog w = runLoad Try.prog 74 (ρ x) w := exec_load w
theorem bigs_xs {ρ : Operand → Value} {d : Option Tmp} {t : TypeId} {x y : Operand} {po : String} {af : Array Edge} {g : Option (Nat × Bool)} (w : World) : (execOp ρ ⟨d, .store 74 x y, t, po, af, g⟩).run Try.prog w = runStore Try.prog 74 (ρ x) (ρ y) w := exec_store w
theorem bigs_l (w : World) (b : Nat) (h : (blkCells w b).size = 62) : runLoad Try.prog 74 (.pointer (some ⟨b, 0, none⟩)) w = .ok (.value (.agg (blkCells w b))) w := runLoad_blk Try.underlying74 rfl (by kernel_rfl) (by omega) w b h
theorem bigs_s (w : World) (b : Nat) (l : List Value) (h : (blkCells w b).size = 62) (hl : l.length = 62) (h1 : allOne l = true) : runStore Try.prog 74 (.pointer (some ⟨b, 0, none⟩)) (.agg l.toArray) w = .ok .skip (putBlk w b l.toArray) := runStore_blk (by kernel_rfl) (by omega) w b l h hl h1
attribute [local go_sem ↓] bigl_xl bigl_xs bigs_xl bigs_xs
attribute [local go_sem] bigl_l bigl_s bigs_l bigs_s blkCells_ov_same blkCells_ov_other blkCells_new blkCells_old blkCells_drew blkCells_drewN putBlk_ov_same putBlk_ov_other putBlk_new putBlk_old putBlk_drew putBlk_drewN putBlk_size allOne_nil allOne_int allOne_bool allOne_slice allOne_pointer allOne_map allOne_string
/-- What the program's functions read: the tree, the map of nodes. -/
structure In26 (w : World) (l : List N26) (N pt bm bn : Nat) (base : Nat → Prop) (R : Rows) : Prop where
  tree : TreeAt w pt bm base R N
  told : Pt (pa26 l) N R
  ok : MapOk w bn
  look : ∀ x, mlook (mapOf w bn) x = m26 l N x
theorem In26.below {w w' : World} {l : List N26} {N pt bm bn : Nat} {base : Nat → Prop} {R : Rows} (h : In26 w l N pt bm bn base R) (hb : Below w.heap.size w w') : In26 w' l N pt bm bn base R :=
  ⟨h.tree.below hb, h.told, mapOk_eq (hb.block _ h.ok.lt) h.ok, fun x => by rw [mapOf_eq (hb.block _ h.ok.lt)]; exact h.look x⟩
theorem M26.into {l : List N26} {w0 w : World} {pt bm m bn N cL : Nat} {B : Nat → BlkT} {aL : Option Addr} {R : Rows} {f : Nat → RowT} {O : Nat → Prop} (h : M26 l w0 w pt bm m B bn N N N N aL cL R f O) (hN : 0 < N) :
    In26 w l N pt bm bn (fun b => w0.heap.size ≤ b ∧ ¬ O b) R := by
  have e : max N 1 = N := by omega
  have t := h.wd.tk.tree
  have p := h.told
  rw [e] at t p
  exact ⟨t, p, h.wd.mok 0 (by omega), fun x => h.wd.mlk 0 (by omega) x⟩
def layZ : Value := .agg (layC 0 false 0 0 false).toArray
theorem zero_lay (w : World) : (zeroValue 77).run Try.prog w = .ok layZ w := by kernel_rfl
theorem look_lay {w : World} {b : Nat} {k : Int} (h : MapOk w b) : (Instr.lookup 25 (.map (some b)) (.int .i64 k) false).run Try.prog w = .ok (mgetD (mapOf w b) k layZ) w := run_lookM Try.underlying25 Try.underlying3 zero_lay k h
theorem look_lay_ok {w : World} {b : Nat} {k : Int} (h : MapOk w b) : (Instr.lookup 25 (.map (some b)) (.int .i64 k) true).run Try.prog w = .ok (.tuple #[mgetD (mapOf w b) k layZ, .bool (mhas (mapOf w b) k)]) w := run_lookMok Try.underlying25 Try.underlying3 zero_lay k h
def numC (z : Int) : List Value := ((styC z false 0 0).drop 38).take 10
set_option maxRecDepth 100000 in
theorem field_sty (z : Int) (au : Bool) (p o : Int) (tx : Bool) (w : World) : (Instr.field 77 (.agg (layC z au p o tx).toArray) 0).run Try.prog w = .ok (.agg (styC z au p o).toArray) w := by kernel_rfl
set_option maxRecDepth 100000 in
theorem field_num (z : Int) (au : Bool) (p o : Int) (w : World) : (Instr.field 74 (.agg (styC z au p o).toArray) 1).run Try.prog w = .ok (.agg (numC z).toArray) w := by kernel_rfl
set_option maxRecDepth 100000 in
theorem index_num (z : Int) (w : World) : (Instr.index 62 (.agg (numC z).toArray) (.int .i64 4)).run Try.prog w = .ok (.int .i64 z) w := by kernel_rfl
attribute [local go_sem] look_lay look_lay_ok mapOk_alloc mapOf_alloc mapOk_drew mapOf_drew mapOk_drewN mapOf_drewN mapOk_ov mapOf_ov field_sty field_num index_num
set_option maxRecDepth 100000 in
set_option maxHeartbeats 1000000 in
theorem pz_any (l : List N26) (N pt bm bn n : Nat) (base : Nat → Prop) (R : Rows) (w : World) (hN : N ≤ 60) (hn : n < N) (h : In26 w l N pt bm bn base R) :
    Calls Try.prog 64 #[.agg #[.pointer (some ⟨pt, 0, none⟩), .map (some bn)], .int .i64 n] w fun e w' => e = .returned (.int .i64 (z26 l n)) ∧ Below w.heap.size w w' := by
  have okn := h.ok
  have ol : Old w bn := okn.lt
  have hlk := h.look n
  unfold m26 at hlk
  rw [if_pos ⟨by omega, by omega⟩, Int.toNat_natCast] at hlk
  have g1 : mgetD (mapOf w bn) n layZ = .agg (layC (nd26 l n).z (nd26 l n).au (1 + (nd26 l n).pos % 3) (1 + (nd26 l n).ov % 3) (tx26 l n)).toArray := mgetD_some hlk
  clear hlk h
  go_enter Try.func64, Try.ntmps64
  go_wp2_with fail
  go_ret
  exact ⟨rfl, by (repeat' (first | (with_reducible exact Below.refl _ _) | (with_reducible assumption) | (with_reducible refine below_from_drew ?_) | (with_reducible refine Below.alloc ?_ ?_ _) | (with_reducible refine Below.drew ?_) | (with_reducible refine below_drewN ?_ _) | (with_reducible refine Below.setCell ?_ ?_ _) | (with_reducible refine below_via ?_ (by assumption) ?_) | (with_reducible refine below_ov ?_ ?_ _ _) | go_size))⟩
set_option maxRecDepth 100000 in
theorem bodyPost_ct26 {P : Program} {fn : Func} {R : Ending → World → Prop} {a : Act} {w : World} {p q : Tmp} {ty : TypeId} {n b : Nat} {cs : Array Value} {T : TypeId} {d : TypeDesc} {x : Value} (hr : fn.results = #[.cell p ty, .tmp q])
    (hp : a.tmps.getD p undef = .pointer (some ⟨b, 0, none⟩)) (hq : a.tmps.getD q undef = x) (hg : Has w b cs T) (hu : P.underlying ty = some d) (hd : d.isRow = true) (hi : (P.info? ty).map (·.size) = some n) (hn : cs.size = n)
    (h0 : a.defers = []) (h : R (.returned (.tuple #[.agg cs, x])) w) : bodyPost P fn R .ret a w := by
  refine bodyPost_ret ?_ h0 h
  have e : a.tmps[p]?.getD undef = .pointer (some ⟨b, 0, none⟩) := by simpa using hp
  have e' : a.tmps[q]?.getD undef = x := by simpa using hq
  simp [results, hr, e, e', asAddr, run_loadVar_row w b T ty cs (0, 0) d hg hu (by cases d <;> simp_all) (by rw [hi, hn])]
theorem load_sty {z p o : Int} {au tx : Bool} {b : Nat} (X : World) (h : ∀ i, X.cell? ⟨b, i, none⟩ = (layC z au p o tx).toArray[i]?) : runLoad Try.prog 74 (.pointer (some ⟨b, 0, none⟩)) X = .ok (.value (.agg (styC z au p o).toArray)) X := by
  unfold runLoad
  rw [Sem.run_bind, run_loadAt_mid X b 0 74 (styC z au p o) _ (fun j v hv => by
    rw [Nat.zero_add, h j]
    have hj : j < 62 := (List.getElem?_eq_some_iff.1 hv).1
    rw [← hv, List.getElem?_toArray]
    have : layC z au p o tx = styC z au p o ++ [.int .u8 0, .bool tx, .slice none 0 0].drop 1 := rfl
    rw [this, List.getElem?_append_left (by exact hj)]) Try.underlying74 rfl (by kernel_rfl)]
  rfl
set_option maxRecDepth 100000 in
set_option maxHeartbeats 2000000 in
theorem pbox_any (l : List N26) (N pt bm bn n : Nat) (base : Nat → Prop) (R : Rows) (w : World) (hN : N ≤ 60) (hn : n < N) (h : In26 w l N pt bm bn base R) :
    Calls Try.prog 43 #[.agg #[.pointer (some ⟨pt, 0, none⟩), .map (some bn)], .int .i64 n] w fun e w' => e = .returned (.tuple #[.agg (styC (nd26 l n).z (nd26 l n).au (1 + (nd26 l n).pos % 3) (1 + (nd26 l n).ov % 3)).toArray, .bool (!tx26 l n)]) ∧ Below w.heap.size w w' := by
  have HI := Lib.hid h
  clear h
  go_enter Try.func43, Try.ntmps43
  go_upto_region 1 with fail
  refine name_w (f := Code.wp _ _ _ _) (fun Y hY => ?_)
  have hbY : Below w.heap.size w Y := by rw [hY]; (repeat' (first | (with_reducible exact Below.refl _ _) | (with_reducible assumption) | (with_reducible refine below_from_drew ?_) | (with_reducible refine Below.alloc ?_ ?_ _) | (with_reducible refine Below.drew ?_) | (with_reducible refine below_drewN ?_ _) | (with_reducible refine Below.setCell ?_ ?_ _) | (with_reducible refine below_via ?_ (by assumption) ?_) | (with_reducible refine below_ov ?_ ?_ _ _) | go_size))
  have h2 : Has Y w.heap.size #[.pointer (some ⟨pt, 0, none⟩), .map (some bn)] 123 := by rw [hY]; (repeat' (first | (with_reducible refine has_drew ?_) | (with_reducible refine has_drewN ?_) | (with_reducible refine has_new ?_; (first | (with_reducible rfl) | omega | (simp; done) | (simp; omega))) | (with_reducible refine has_ov_same ?_; (first | (with_reducible rfl) | omega | (simp; done) | (simp; omega))) | (with_reducible refine has_alloc ?_) | (with_reducible refine has_ov_other ?_ ?_; (focus (first | (with_reducible rfl) | omega | (simp; done) | (simp; omega)))) | (with_reducible assumption) | (with_reducible exact has_below hB (by assumption))))
  have h4 : Has Y (w.heap.size + 1) (styC 0 false 0 0).toArray 74 := by rw [hY]; exact has_new (by simp)
  have hsz : Y.heap.size = w.heap.size + 2 := by rw [hY]; go_simp
  have hIY := HI.out.below hbY
  have okn := hIY.ok
  have ol : Old Y bn := okn.lt
  have lbn := okn.lt
  have hlk := hIY.look n
  unfold m26 at hlk
  rw [if_pos ⟨by omega, by omega⟩, Int.toNat_natCast] at hlk
  have g1 : mgetD (mapOf Y bn) n layZ = .agg (layC (nd26 l n).z (nd26 l n).au (1 + (nd26 l n).pos % 3) (1 + (nd26 l n).ov % 3) (tx26 l n)).toArray := mgetD_some hlk
  have g2 := mhas_some hlk
  have c2 := h2.cells; have l2 := h2.lt; have o2 : Old Y w.heap.size := l2
  have HBY := Lib.hid hbY; have H4 := Lib.hid h4; have l4 := h4.lt; have o4 : Old Y (w.heap.size + 1) := l4
  clear hlk hIY hY hbY h2 h4
  go_upto_region 2 with fail
  have hq : ∀ (X : World) (b : Nat), (blkCells X b).size = 64 → runStore Try.prog 77 (.pointer (some ⟨b, 0, none⟩)) (.agg (layC (nd26 l n).z (nd26 l n).au (1 + (nd26 l n).pos % 3) (1 + (nd26 l n).ov % 3) (tx26 l n)).toArray) X = .ok .skip (putBlk X b (layC (nd26 l n).z (nd26 l n).au (1 + (nd26 l n).pos % 3) (1 + (nd26 l n).ov % 3) (tx26 l n)).toArray) := fun X b h => bigl_s X b _ h rfl rfl
  have hz : ∀ (X : World) (c : Array Value) (T : TypeId), c.size = 64 → X.heap.size = w.heap.size + 2 → (blkCells (X.alloc (.cells c T)) (w.heap.size + 2)).size = 64 := fun X c T h1 h2 => by
    go_simp
  rw [hq _ _ (hz _ _ _ rfl hsz)]
  clear hq hz
  go_upto_region 2 with fail
  refine name_w (f := Code.wp _ _ _ _) (fun Z hZ => ?_)
  have hbZ : Below Y.heap.size Y Z := by rw [hZ]; (repeat' (first | (with_reducible exact Below.refl _ _) | (with_reducible assumption) | (with_reducible refine below_from_drew ?_) | (with_reducible refine Below.alloc ?_ ?_ _) | (with_reducible refine Below.drew ?_) | (with_reducible refine below_drewN ?_ _) | (with_reducible refine Below.setCell ?_ ?_ _) | (with_reducible refine below_via ?_ (by assumption) ?_) | (with_reducible refine below_ov ?_ ?_ _ _) | go_size))
  have h6 : Has Z (w.heap.size + 2) (layC (nd26 l n).z (nd26 l n).au (1 + (nd26 l n).pos % 3) (1 + (nd26 l n).ov % 3) (tx26 l n)).toArray 77 := by rw [hZ]; exact has_new (by omega)
  have hs3 : Z.heap.size = w.heap.size + 3 := by rw [hZ]; simp only [World.size_alloc, hsz]
  have h4Z := has_below hbZ H4.out
  have HBZ := Lib.hid (HBY.out.trans (hbZ.mono HBY.out.size))
  have hld := load_sty (z := (nd26 l n).z) (au := (nd26 l n).au) (p := 1 + (nd26 l n).pos % 3) (o := 1 + (nd26 l n).ov % 3) (tx := tx26 l n) (b := w.heap.size + 2)
  have q61 : Z.cell? ⟨w.heap.size + 2, 62, none⟩ = some (.bool (tx26 l n)) := (h6.cells 62).trans rfl
  have c6 := h6.cells; have l6 := h6.lt; have o6 : Old Z (w.heap.size + 2) := l6
  have l4z := h4Z.lt
  clear hZ hbZ c2 l2 o2 g1 g2 okn ol lbn l4 o4 hsz HBY H4
  have hls : (styC 0 false 0 0).toArray.size = 62 := rfl
  have hst : ∀ X : World, (blkCells X (w.heap.size + 1)).size = 62 → runStore Try.prog 74 (.pointer (some ⟨w.heap.size + 1, 0, none⟩)) (.agg (styC (nd26 l n).z (nd26 l n).au (1 + (nd26 l n).pos % 3) (1 + (nd26 l n).ov % 3)).toArray) X = .ok .skip (putBlk X (w.heap.size + 1) (styC (nd26 l n).z (nd26 l n).au (1 + (nd26 l n).pos % 3) (1 + (nd26 l n).ov % 3)).toArray) := fun X h => bigs_s X _ _ h rfl rfl
  rw [← ov_self h4Z]
  clear h4Z h6
  refine region_phases (ph2 ((w.heap.size + 1)) _) [(0, 0, 0), (1, 0, 0), (2, 0, 0), (3, 0, 0), (4, 0, 1), (5, 0, 1), (6, 0, 1), (7, 0, 1), (8, 1, 1), (9, 0, 1)] (ph2_first _ _) (by kernel_rfl) (by kernel_rfl) (fun _ _ d _ _ h => by cases d <;> exact h) ?_
  (refine wpP_read (v := ?_) rfl (.inl ⟨by rfl, fun wx hbx => ?_⟩) ?_; rotate_left; (focus (obtain ⟨cx0, fx0, zx0⟩ := bk (show Below _ _ _ from hbx) (w.heap.size + 2) (by first | omega | (simp; done) | (simp; omega)); go_simp; (try go_bits); (try with_reducible rfl))); try simp only [Act.put, List.setIfInBounds_toArray, List.set_cons_zero, List.set_cons_succ])
  (refine wpP_read (v := ?_) rfl (.inl ⟨by rfl, fun wx hbx => ?_⟩) ?_; rotate_left; (focus (obtain ⟨cx0, fx0, zx0⟩ := bk (show Below _ _ _ from hbx) (w.heap.size + 2) (by first | omega | (simp; done) | (simp; omega)); go_simp; (try go_bits); (try with_reducible rfl))); try simp only [Act.put, List.setIfInBounds_toArray, List.set_cons_zero, List.set_cons_succ])
  (refine wpP_read (v := ?_) rfl (.inl ⟨by rfl, fun wx hbx => ?_⟩) ?_; rotate_left; (focus (obtain ⟨cx0, fx0, zx0⟩ := bk (show Below _ _ _ from hbx) (w.heap.size + 2) (by first | omega | (simp; done) | (simp; omega)); go_simp; (try go_bits); (try with_reducible rfl))); try simp only [Act.put, List.setIfInBounds_toArray, List.set_cons_zero, List.set_cons_succ])
  (refine wpP_read (v := ?_) rfl (.inl ⟨by rfl, fun wx hbx => ?_⟩) ?_; rotate_left; (focus (obtain ⟨cx0, fx0, zx0⟩ := bk (show Below _ _ _ from hbx) (w.heap.size + 2) (by first | omega | (simp; done) | (simp; omega)); go_simp; (try go_bits); (try with_reducible rfl))); try simp only [Act.put, List.setIfInBounds_toArray, List.set_cons_zero, List.set_cons_succ])
  (refine wpP_read (v := ?_) rfl (.inl ⟨by rfl, fun wx hbx => ?_⟩) ?_; rotate_left; (focus (obtain ⟨cx0, fx0⟩ := buts_bk (show ButS _ _ _ _ from hbx) (b := w.heap.size + 2) (by first | omega | (simp; done) | (simp; omega)) (by first | assumption | omega | (simp; done) | (simp; omega)); go_simp; (try go_bits); (try with_reducible rfl))); try simp only [Act.put, List.setIfInBounds_toArray, List.set_cons_zero, List.set_cons_succ])
  (refine wpP_read (v := ?_) rfl (.inl ⟨by rfl, fun wx hbx => ?_⟩) ?_; rotate_left; (focus (obtain ⟨cx0, fx0⟩ := buts_bk (show ButS _ _ _ _ from hbx) (b := w.heap.size + 2) (by first | omega | (simp; done) | (simp; omega)) (by first | assumption | omega | (simp; done) | (simp; omega)); go_simp; (try go_bits); (try with_reducible rfl))); try simp only [Act.put, List.setIfInBounds_toArray, List.set_cons_zero, List.set_cons_succ])
  (refine wpP_read (v := ?_) rfl (.inl ⟨by rfl, fun wx hbx => ?_⟩) ?_; rotate_left; (focus (obtain ⟨cx0, fx0⟩ := buts_bk (show ButS _ _ _ _ from hbx) (b := w.heap.size + 2) (by first | omega | (simp; done) | (simp; omega)) (by first | assumption | omega | (simp; done) | (simp; omega)); go_simp; (try go_bits); (try with_reducible rfl))); try simp only [Act.put, List.setIfInBounds_toArray, List.set_cons_zero, List.set_cons_succ])
  (refine wpP_read (v := ?_) rfl (.inl ⟨by rfl, fun wx hbx => ?_⟩) ?_; rotate_left; (focus (obtain ⟨cx0, fx0⟩ := buts_bk (show ButS _ _ _ _ from hbx) (b := w.heap.size + 2) (by first | omega | (simp; done) | (simp; omega)) (by first | assumption | omega | (simp; done) | (simp; omega)); go_simp; (try go_bits); (try with_reducible rfl))); try simp only [Act.put, List.setIfInBounds_toArray, List.set_cons_zero, List.set_cons_succ])
  (refine wpP_make rfl (fun K hK => ?_); go_simp; refine hK _ _ (ph2_next ?_) ?_; (focus (first | exact ph2_ov _ _ _ _ _ _ | exact ph2_ovd _ _ _ _ _ _ | exact ph2_ovdd _ _ _ _ _ _ | exact ph2_ovddd _ _ _ _ _ _)); clear hK K; try simp only [Act.put, List.setIfInBounds_toArray, List.set_cons_zero, List.set_cons_succ])
  (refine wpP_read (v := ?_) rfl (.inl ⟨by rfl, fun wx hbx => ?_⟩) ?_; rotate_left; (focus (obtain ⟨cx0, fx0⟩ := buts_bk (show ButS _ _ _ _ from hbx) (b := w.heap.size + 2) (by first | omega | (simp; done) | (simp; omega)) (by first | assumption | omega | (simp; done) | (simp; omega)); go_simp; (try go_bits); (try with_reducible rfl))); try simp only [Act.put, List.setIfInBounds_toArray, List.set_cons_zero, List.set_cons_succ])
  refine wpP_nil ?_
  clear hld hst
  go_wp2_with fail
  refine bodyPost_ct26 (b := w.heap.size + 1) (cs := (styC (nd26 l n).z (nd26 l n).au (1 + (nd26 l n).pos % 3) (1 + (nd26 l n).ov % 3)).toArray) (T := 74) Try.results43 rfl rfl (by first | exact has_ov_same l4z | (show Has _ _ _ _; (repeat' (first | (with_reducible refine has_drew ?_) | (with_reducible refine has_drewN ?_) | (with_reducible refine has_new ?_; (first | (with_reducible rfl) | omega | (simp; done) | (simp; omega))) | (with_reducible refine has_ov_same ?_; (first | (with_reducible rfl) | omega | (simp; done) | (simp; omega))) | (with_reducible refine has_alloc ?_) | (with_reducible refine has_ov_other ?_ ?_; (focus (first | (with_reducible rfl) | omega | (simp; done) | (simp; omega)))) | (with_reducible assumption) | (with_reducible exact has_below hB (by assumption)))))) Try.underlying74 rfl (by kernel_rfl) rfl rfl ?_
  refine ⟨rfl, ?_⟩
  have q := HBZ.out
  (repeat' (first | (with_reducible exact Below.refl _ _) | (with_reducible assumption) | (with_reducible refine below_from_drew ?_) | (with_reducible refine Below.alloc ?_ ?_ _) | (with_reducible refine Below.drew ?_) | (with_reducible refine below_drewN ?_ _) | (with_reducible refine Below.setCell ?_ ?_ _) | (with_reducible refine below_via ?_ (by assumption) ?_) | (with_reducible refine below_ov ?_ ?_ _ _) | go_size))
end Go.Proofs.Ytjcbphhemmdnjaa
namespace Go.Proofs.Ytjcbphhemmdnjaa
open Go Go.RowKit
set_option linter.unusedSimpArgs false
set_option linter.unusedVariables false
-- below_from_drew
attribute [local go_sem] ov_cell_same ov_cell_other ov_frozen_same ov_frozen_other ov_size ov_setCell_same ov_setCell_other cell_alloc_old frozen_alloc_old setCell_alloc_old old_alloc old_ov old_drew old_drewN old_setCell
attribute [local go_sem ↓] run_max2 run_min2
attribute [local go_sem ↓] bigl_xl bigl_xs bigs_xl bigs_xs
attribute [local go_sem] bigl_l bigl_s bigs_l bigs_s blkCells_ov_same blkCells_ov_other blkCells_new blkCells_old blkCells_drew blkCells_drewN putBlk_ov_same putBlk_ov_other putBlk_new putBlk_old putBlk_drew putBlk_drewN putBlk_size allOne_nil allOne_int allOne_bool allOne_slice allOne_pointer allOne_map allOne_string
set_option maxRecDepth 100000 in
set_option maxHeartbeats 2000000 in
theorem pctx_any (l : List N26) (N pt bm bn n : Nat) (base : Nat → Prop) (R : Rows) (w : World) (hN : N ≤ 60) (hn : n < N) (h : In26 w l N pt bm bn base R) :
    Calls Try.prog 60 #[.agg #[.pointer (some ⟨pt, 0, none⟩), .map (some bn)], .int .i64 n] w fun e w' => e = .returned (.bool (ctx26 l n)) ∧ Below w.heap.size w w' := by
  have HB := Lib.hid (fun X (hX : Below w.heap.size w X) => pbox_any l N pt bm bn n base R X hN hn (h.below hX))
  clear h
  obtain ⟨zz, hzz⟩ : ∃ z, (nd26 l n).z = z := ⟨_, rfl⟩
  obtain ⟨au, hau⟩ : ∃ z, (nd26 l n).au = z := ⟨_, rfl⟩
  obtain ⟨po, hpo⟩ : ∃ z, 1 + (nd26 l n).pos % 3 = z := ⟨_, rfl⟩
  obtain ⟨ov', hov⟩ : ∃ z, 1 + (nd26 l n).ov % 3 = z := ⟨_, rfl⟩
  obtain ⟨tx, htx⟩ : ∃ z, tx26 l n = z := ⟨_, rfl⟩
  have HE : Hid (ctx26 l n = (decide (n = 0) || (!tx && decide (po ≠ 1) && !au))) := Lib.hid (by
    unfold ctx26
    rw [htx, hau, show decide ((nd26 l n).pos % 3 ≠ 0) = decide (po ≠ 1) by congr 1; apply propext; omega])
  rw [hzz, hau, hpo, hov, htx] at HB
  clear hzz hau hpo hov htx
  go_enter Try.func60, Try.ntmps60
  go_upto_region 2 with ((go_at_call 43; (with_reducible refine (HB.out _ (by (repeat' (first | (with_reducible exact Below.refl _ _) | (with_reducible assumption) | (with_reducible refine below_from_drew ?_) | (with_reducible refine Below.alloc ?_ ?_ _) | (with_reducible refine Below.drew ?_) | (with_reducible refine below_drewN ?_ _) | (with_reducible refine Below.setCell ?_ ?_ _) | (with_reducible refine below_via ?_ (by assumption) ?_) | (with_reducible refine below_ov ?_ ?_ _ _) | go_size)))).mono ?_); rintro e w1 ⟨rfl, hb⟩; refine Exists.elim (after1 (w := w) (b0 := w.heap.size) (cs0 := ?_) (T0 := ?_) hb ?_ ?_) ?_; rotate_left 2; (focus ((repeat' (first | (with_reducible exact Below.refl _ _) | (with_reducible assumption) | (with_reducible refine below_from_drew ?_) | (with_reducible refine Below.alloc ?_ ?_ _) | (with_reducible refine Below.drew ?_) | (with_reducible refine below_drewN ?_ _) | (with_reducible refine Below.setCell ?_ ?_ _) | (with_reducible refine below_via ?_ (by assumption) ?_) | (with_reducible refine below_ov ?_ ?_ _ _) | go_size)); done)); (focus ((repeat' (first | (with_reducible refine has_drew ?_) | (with_reducible refine has_drewN ?_) | (with_reducible refine has_new ?_; (first | (with_reducible rfl) | omega | (simp; done) | (simp; omega))) | (with_reducible refine has_ov_same ?_; (first | (with_reducible rfl) | omega | (simp; done) | (simp; omega))) | (with_reducible refine has_alloc ?_) | (with_reducible refine has_ov_other ?_ ?_; (focus (first | (with_reducible rfl) | omega | (simp; done) | (simp; omega)))) | (with_reducible assumption) | (with_reducible exact has_below hB (by assumption)))); done)); rintro u ⟨rfl, hB, hz, z0, o0⟩; (try simp only [World.size_alloc, World.size_setCell, World.size_drew, ov_size] at hz)))
  have hq : ∀ (X : World) (b : Nat), (blkCells X b).size = 62 → runStore Try.prog 74 (.pointer (some ⟨b, 0, none⟩)) (.agg (styC zz au po ov').toArray) X = .ok .skip (putBlk X b (styC zz au po ov').toArray) := fun X b h => bigs_s X b _ h rfl rfl
  have hz2 : ∀ (X : World) (c : Array Value) (T : TypeId), c.size = 62 → X.heap.size = u.heap.size → (blkCells (X.alloc (.cells c T)) u.heap.size).size = 62 := fun X c T h1 h2 => by
    rw [blkCells_new h2.symm]; exact h1
  rw [hq _ _ (hz2 _ _ _ rfl (by simp only [ov_size]))]
  clear hq hz2
  go_upto_region 2 with fail
  refine name_w (f := Code.wp _ _ _ _) (fun Z hZ => ?_)
  have hbZ : Below w.heap.size w Z := by rw [hZ]; (repeat' (first | (with_reducible exact Below.refl _ _) | (with_reducible assumption) | (with_reducible refine below_from_drew ?_) | (with_reducible refine Below.alloc ?_ ?_ _) | (with_reducible refine Below.drew ?_) | (with_reducible refine below_drewN ?_ _) | (with_reducible refine Below.setCell ?_ ?_ _) | (with_reducible refine below_via ?_ (by assumption) ?_) | (with_reducible refine below_ov ?_ ?_ _ _) | go_size))
  have h5 : Has Z u.heap.size (styC zz au po ov').toArray 74 := by rw [hZ]; exact has_new (by simp only [ov_size])
  have q50 : Z.cell? ⟨u.heap.size, 49 + 1, none⟩ = some (.int .i64 po) := (h5.cells 50).trans rfl
  have q48 : Z.cell? ⟨u.heap.size, 48, none⟩ = some (.bool au) := (h5.cells 48).trans rfl
  have l5 := h5.lt; have o5 : Old Z u.heap.size := l5
  have HBZ := Lib.hid hbZ
  clear hZ hbZ h5 hB HB
  generalize u.heap.size = b5 at *
  rcases Nat.eq_zero_or_pos n with c | c
  · subst c
    go_wp2_with fail
    go_ret
    exact ⟨by rw [HE.out]; rfl, HBZ.out⟩
  · have hkn : ¬ (n : Int) = 0 := by omega
    have hkb : ((n : Int) == 0) = false := by simpa using hkn
    have hd : decide (n = 0) = false := by simp; omega
    rw [hd] at HE
    clear hd
    rcases tx with _ | _
    · by_cases hp : po = 1
      · subst hp
        go_wp2_with fail
        go_ret
        exact ⟨by rw [HE.out]; rfl, HBZ.out⟩
      · have hpb : (po != 1) = true := by simpa using hp
        have hpd : decide (po ≠ 1) = true := by simpa using hp
        rw [hpd] at HE
        clear hpd
        rcases au with _ | _
        · go_wp2_with fail
          go_ret
          exact ⟨by rw [HE.out]; rfl, HBZ.out⟩
        · go_wp2_with fail
          go_ret
          exact ⟨by rw [HE.out]; rfl, HBZ.out⟩
    · go_wp2_with fail
      go_ret
      exact ⟨by rw [HE.out]; rfl, HBZ.out⟩
end Go.Proofs.Ytjcbphhemmdnjaa
