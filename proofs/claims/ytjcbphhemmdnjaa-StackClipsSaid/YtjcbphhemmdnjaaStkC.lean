/- law26 (stack): stack.Clips by contract. -/
import Derived.Test.YtjcbphhemmdnjaaStkVW
import Derived.Test.YtjcbphhemmdnjaaStkI
import Derived.Shelf.Slices.Reverse
import Derived.Sort.OwnSortedInts
namespace Go.Proofs.Ytjcbphhemmdnjaa
open Go Go.RowKit Go.Shelf
set_option linter.unusedSimpArgs false
set_option linter.unusedVariables false
-- below_from_drew
attribute [local go_sem] ov_cell_same ov_cell_other ov_frozen_same ov_frozen_other ov_size ov_setCell_same ov_setCell_other cell_alloc_old frozen_alloc_old setCell_alloc_old old_alloc old_ov old_drew old_drewN old_setCell
attribute [local go_sem ↓] run_max2 run_min2
attribute [local go_sem ↓] bigl_xl bigl_xs bigs_xl bigs_xs
attribute [local go_sem] bigl_l bigl_s bigs_l bigs_s blkCells_ov_same blkCells_ov_other blkCells_new blkCells_old blkCells_drew blkCells_drewN putBlk_ov_same putBlk_ov_other putBlk_new putBlk_old putBlk_drew putBlk_drewN putBlk_size allOne_nil allOne_int allOne_bool allOne_slice allOne_pointer allOne_map allOne_string
def rhoRv : Ren := ⟨fun n => if n = 112 then 44 else 0, fun t => if t = 28 then 54 else if t = 3 then 3 else if t = 4 then 4 else t, fun g => g⟩
set_option maxRecDepth 1000000 in
theorem laysRv : Lays.n112 Try.prog rhoRv where
  mixed := by kernel_rfl
  f112 := by kernel_rfl
  t0 := by kernel_rfl
  a0 := fun w => by kernel_rfl
  z0 := fun w => by kernel_rfl
  v0 := fun w => by kernel_rfl
  t3 := by kernel_rfl
  a3 := fun w => by kernel_rfl
  z3 := fun w => by kernel_rfl
  v3 := fun w => by kernel_rfl
  t4 := by kernel_rfl
  a4 := fun w => by kernel_rfl
  z4 := fun w => by kernel_rfl
  v4 := fun w => by kernel_rfl
  t28 := by kernel_rfl
  a28 := fun w => by kernel_rfl
  z28 := fun w => by kernel_rfl
  v28 := fun w => by kernel_rfl
/-- A row of one's own, turned round. -/
theorem rev_own {w : World} {base : Nat} {v : Value} {xs : List Nat} (h : OwnN w base v xs) (hl : xs.length ≤ 1000000) :
    Calls Try.prog 44 #[v] w fun e w' => e = .returned (.tuple #[]) ∧ OwnN w' base v xs.reverse ∧ w.grownBy w' v.ownBlock := by
  rcases Nat.eq_zero_or_pos xs.length with c | c
  · have he : xs = [] := List.eq_nil_of_length_eq_zero c
    subst he
    obtain ⟨a, k, rfl⟩ := h.shape
    refine (Any.slices_Reverse_int_empty laysRv a k w).mono ?_
    rintro e w' ⟨rfl, rfl⟩
    exact ⟨rfl, h, ⟨rfl, rfl, rfl, Nat.le_refl _, fun _ _ _ => rfl⟩⟩
  · rcases h.2 with ⟨rfl, h0⟩ | ⟨g, cap, cur, rfl, hg, hb, hn, hcap, hsz, htk⟩
    · exfalso; omega
    · have hm : natVals xs = (xs.map (fun (k : Nat) => (k : Int))).map (Value.int .i64) := by simp [natVals]
      have hH := holds_of_blockI (ss := xs.map (fun (k : Nat) => (k : Int))) hb (by rw [List.length_map, ← hm]; simpa using htk)
      have hR := Any.slices_Reverse_int laysRv g 0 cap _ w hH (by rw [List.length_map]; omega)
      rw [List.length_map] at hR
      refine hR.mono ?_
      rintro e w' ⟨rfl, n, rfl⟩
      have hr : (xs.map (fun (k : Nat) => (k : Int))).reverse = xs.reverse.map (fun (k : Nat) => (k : Int)) := by simp
      have ho := ownsRow_sortedI (base := base) (g := g) (cap := cap) (n := n) (os := #[]) (ss := xs.map (fun (k : Nat) => (k : Int))) (ts := (xs.map (fun (k : Nat) => (k : Int))).reverse) (by simp) hg hb (by rw [List.length_map]; exact hn) hcap hsz
      have hgr := grownBy_sortedI (w := w) (g := g) (n := n) (os := #[]) (xs.map (fun (k : Nat) => (k : Int))).reverse.toArray
      have hz : ∀ (X : World), Sort.grow X #[] = X := fun X => by simp [Sort.grow]
      rw [hz] at ho hgr
      refine ⟨rfl, ?_, hgr⟩
      unfold OwnN
      rw [List.length_reverse]
      rw [List.length_map, hr] at ho
      have hm2 : natVals xs.reverse = (xs.reverse.map (fun (k : Nat) => (k : Int))).map (Value.int .i64) := by simp [natVals]
      rw [hm2]
      rw [hr]
      exact ho
theorem parent_nil (n : Int) (w : World) : Calls Try.prog 42 #[.pointer none, .int .i64 n] w fun e w' => e = .returned (.tuple #[.int .i64 0, .bool false]) ∧ Below w.heap.size w w' := by
  by_cases h0 : n = 0
  · subst h0
    go_enter Try.func42, Try.ntmps42
    go_wp2_with fail
    go_ret2
    exact ⟨rfl, by (repeat' (first | (with_reducible exact Below.refl _ _) | (with_reducible assumption) | (with_reducible refine below_from_drew ?_) | (with_reducible refine Below.alloc ?_ ?_ _) | (with_reducible refine Below.drew ?_) | (with_reducible refine below_drewN ?_ _) | (with_reducible refine Below.setCell ?_ ?_ _) | (with_reducible refine below_via ?_ (by assumption) ?_) | (with_reducible refine below_ov ?_ ?_ _ _) | go_size))⟩
  · have hb : (n == 0) = false := by simpa using h0
    go_enter Try.func42, Try.ntmps42
    go_wp2_with (go_at_call 49; refine (has_none _ _).mono ?_; rintro e w' ⟨rfl, rfl⟩)
    go_ret2
    exact ⟨rfl, by (repeat' (first | (with_reducible exact Below.refl _ _) | (with_reducible assumption) | (with_reducible refine below_from_drew ?_) | (with_reducible refine Below.alloc ?_ ?_ _) | (with_reducible refine Below.drew ?_) | (with_reducible refine below_drewN ?_ _) | (with_reducible refine Below.setCell ?_ ?_ _) | (with_reducible refine below_via ?_ (by assumption) ?_) | (with_reducible refine below_ov ?_ ?_ _ _) | go_size))⟩
theorem up26_any {l : List N26} {N pt bm bn n : Nat} {base : Nat → Prop} {R : Rows} {w : World} (hn : n < N) (h : In26 w l N pt bm bn base R) :
    Calls Try.prog 42 #[.pointer (some ⟨pt, 0, none⟩), .int .i64 n] w fun e w' => e = .returned (.tuple #[.int .i64 (pa26 l n), .bool (decide (0 < n))]) ∧ Below w.heap.size w w' := by
  rcases Nat.eq_zero_or_pos n with c | c
  · subst c
    exact parent_out pt bm base R N 0 w h.tree (.inl rfl)
  · have hm : (n : Int) ∈ nums R := (h.told.mem _).2 ⟨by omega, by omega⟩
    obtain ⟨⟨nn, dd⟩, hx, e1⟩ := List.mem_map.1 hm
    obtain ⟨A, C, hR⟩ := List.append_of_mem hx
    simp only at e1
    subst e1
    have hp := h.told.par A C _ dd hR (by omega)
    rw [Int.toNat_natCast] at hp
    have hA : A ≠ [] := fun q => by
      have := (h.tree.wf.root hR).2 q
      omega
    rw [decide_eq_true c, ← hp]
    exact parent_any pt bm base R A C N _ dd w h.tree hR hA
theorem up26_out {l : List N26} {N pt bm bn n : Nat} {base : Nat → Prop} {R : Rows} {w : World} (hn : N ≤ n) (h : In26 w l N pt bm bn base R) :
    Calls Try.prog 42 #[.pointer (some ⟨pt, 0, none⟩), .int .i64 n] w fun e w' => e = .returned (.tuple #[.int .i64 0, .bool false]) ∧ Below w.heap.size w w' :=
  parent_out pt bm base R N n w h.tree (.inr fun q => by have := (h.told.mem _).1 q; omega)
def okOf : Value → Bool
  | .bool b => b
  | _ => false
set_option maxRecDepth 100000 in
set_option maxHeartbeats 2000000 in
/-- Clips of a node that the tree has not. -/
theorem pclips_none (p : Option Addr) (m : Option Nat) (n : Int) (w : World) (h : ∀ X, Below w.heap.size w X → Calls Try.prog 42 #[.pointer p, .int .i64 n] X fun e w' => e = .returned (.tuple #[.int .i64 0, .bool false]) ∧ Below X.heap.size X w') :
    Calls Try.prog 20 #[.pointer p, .map m, .int .i64 n] w fun e w' => e = .returned (.slice none 0 0) ∧ Below w.heap.size w w' := by
  have HP := Lib.hid h
  clear h
  go_enter Try.func20, Try.ntmps20
  go_wp2_with ((go_at_call 42; (with_reducible refine (HP.out _ (by (repeat' (first | (with_reducible exact Below.refl _ _) | (with_reducible assumption) | (with_reducible refine below_from_drew ?_) | (with_reducible refine Below.alloc ?_ ?_ _) | (with_reducible refine Below.drew ?_) | (with_reducible refine below_drewN ?_ _) | (with_reducible refine Below.setCell ?_ ?_ _) | (with_reducible refine below_via ?_ (by assumption) ?_) | (with_reducible refine below_ov ?_ ?_ _ _) | go_size)))).mono ?_); rintro e w1 ⟨rfl, hb⟩; refine Exists.elim (after1 (w := w) (b0 := w.heap.size) (cs0 := ?_) (T0 := ?_) hb ?_ ?_) ?_; rotate_left 2; (focus ((repeat' (first | (with_reducible exact Below.refl _ _) | (with_reducible assumption) | (with_reducible refine below_from_drew ?_) | (with_reducible refine Below.alloc ?_ ?_ _) | (with_reducible refine Below.drew ?_) | (with_reducible refine below_drewN ?_ _) | (with_reducible refine Below.setCell ?_ ?_ _) | (with_reducible refine below_via ?_ (by assumption) ?_) | (with_reducible refine below_ov ?_ ?_ _ _) | go_size)); done)); (focus ((repeat' (first | (with_reducible refine has_drew ?_) | (with_reducible refine has_drewN ?_) | (with_reducible refine has_new ?_; (first | (with_reducible rfl) | omega | (simp; done) | (simp; omega))) | (with_reducible refine has_ov_same ?_; (first | (with_reducible rfl) | omega | (simp; done) | (simp; omega))) | (with_reducible refine has_alloc ?_) | (with_reducible refine has_ov_other ?_ ?_; (focus (first | (with_reducible rfl) | omega | (simp; done) | (simp; omega)))) | (with_reducible assumption) | (with_reducible exact has_below hB (by assumption)))); done)); rintro u ⟨rfl, hB, hz, z0, o0⟩; (try simp only [World.size_alloc, World.size_setCell, World.size_drew, ov_size] at hz)))
  go_loopw [8, 9, 10] (fun vo vk vok wr => vo = .slice none 0 0 ∧ vk = .int .i64 0 ∧ vok = .bool false ∧ Below w.heap.size w wr) (fun _ _ _ _ => 0)
  case atStart => exact ⟨rfl, rfl, rfl, by (repeat' (first | (with_reducible exact Below.refl _ _) | (with_reducible assumption) | (with_reducible refine below_from_drew ?_) | (with_reducible refine Below.alloc ?_ ?_ _) | (with_reducible refine Below.drew ?_) | (with_reducible refine below_drewN ?_ _) | (with_reducible refine Below.setCell ?_ ?_ _) | (with_reducible refine below_via ?_ (by assumption) ?_) | (with_reducible refine below_ov ?_ ?_ _ _) | go_size))⟩
  case round =>
    obtain ⟨rfl, rfl, rfl, hb⟩ := hrel
    go_wp2_with (go_at_call 44; refine (Any.slices_Reverse_int_empty laysRv none 0 wr).mono ?_; rintro e w' ⟨rfl, rfl⟩)
    go_ret
    exact ⟨rfl, hb⟩
set_option maxRecDepth 100000 in
set_option maxHeartbeats 4000000 in
theorem pclips_any (l : List N26) (N pt bm bn n : Nat) (base : Nat → Prop) (R : Rows) (w : World) (hN : N ≤ 60) (hn : n < N) (h : In26 w l N pt bm bn base R) :
    Calls Try.prog 20 #[.pointer (some ⟨pt, 0, none⟩), .map (some bn), .int .i64 n] w fun e w' => ∃ v, e = .returned v ∧ OwnN w' w.heap.size v (upsN (pa26 l) (clip26 l) n).reverse ∧ Below w.heap.size w w' := by
  have hpa : ∀ i, 0 < i → pa26 l i < i := fun i hi => pa26_lt l hi
  have HPA := Lib.hid hpa
  clear hpa
  have HI := Lib.hid h
  have HU := Lib.hid (fun (k : Nat) (hk : k < N) X (hX : Below w.heap.size w X) => up26_any hk (h.below hX))
  clear h
  go_enter Try.func20, Try.ntmps20
  go_wp2_with ((go_at_call 42; (with_reducible refine (HU.out n hn _ (by (repeat' (first | (with_reducible exact Below.refl _ _) | (with_reducible assumption) | (with_reducible refine below_from_drew ?_) | (with_reducible refine Below.alloc ?_ ?_ _) | (with_reducible refine Below.drew ?_) | (with_reducible refine below_drewN ?_ _) | (with_reducible refine Below.setCell ?_ ?_ _) | (with_reducible refine below_via ?_ (by assumption) ?_) | (with_reducible refine below_ov ?_ ?_ _ _) | go_size)))).mono ?_); rintro e w1 ⟨rfl, hb⟩; refine Exists.elim (after1 (w := w) (b0 := w.heap.size) (cs0 := ?_) (T0 := ?_) hb ?_ ?_) ?_; rotate_left 2; (focus ((repeat' (first | (with_reducible exact Below.refl _ _) | (with_reducible assumption) | (with_reducible refine below_from_drew ?_) | (with_reducible refine Below.alloc ?_ ?_ _) | (with_reducible refine Below.drew ?_) | (with_reducible refine below_drewN ?_ _) | (with_reducible refine Below.setCell ?_ ?_ _) | (with_reducible refine below_via ?_ (by assumption) ?_) | (with_reducible refine below_ov ?_ ?_ _ _) | go_size)); done)); (focus ((repeat' (first | (with_reducible refine has_drew ?_) | (with_reducible refine has_drewN ?_) | (with_reducible refine has_new ?_; (first | (with_reducible rfl) | omega | (simp; done) | (simp; omega))) | (with_reducible refine has_ov_same ?_; (first | (with_reducible rfl) | omega | (simp; done) | (simp; omega))) | (with_reducible refine has_alloc ?_) | (with_reducible refine has_ov_other ?_ ?_; (focus (first | (with_reducible rfl) | omega | (simp; done) | (simp; omega)))) | (with_reducible assumption) | (with_reducible exact has_below hB (by assumption)))); done)); rintro u ⟨rfl, hB, hz, z0, o0⟩; (try simp only [World.size_alloc, World.size_setCell, World.size_drew, ov_size] at hz)))
  refine name_w (f := Code.wp _ _ _ _) (fun U hU => ?_)
  have hbU : Below w.heap.size w U := by rw [hU]; (repeat' (first | (with_reducible exact Below.refl _ _) | (with_reducible assumption) | (with_reducible refine below_from_drew ?_) | (with_reducible refine Below.alloc ?_ ?_ _) | (with_reducible refine Below.drew ?_) | (with_reducible refine below_drewN ?_ _) | (with_reducible refine Below.setCell ?_ ?_ _) | (with_reducible refine below_via ?_ (by assumption) ?_) | (with_reducible refine below_ov ?_ ?_ _ _) | go_size))
  have hpU : Has U w.heap.size #[.pointer (some ⟨pt, 0, none⟩), .map (some bn)] 123 := by rw [hU]; (repeat' (first | (with_reducible refine has_drew ?_) | (with_reducible refine has_drewN ?_) | (with_reducible refine has_new ?_; (first | (with_reducible rfl) | omega | (simp; done) | (simp; omega))) | (with_reducible refine has_ov_same ?_; (first | (with_reducible rfl) | omega | (simp; done) | (simp; omega))) | (with_reducible refine has_alloc ?_) | (with_reducible refine has_ov_other ?_ ?_; (focus (first | (with_reducible rfl) | omega | (simp; done) | (simp; omega)))) | (with_reducible assumption) | (with_reducible exact has_below hB (by assumption))))
  have HBU := Lib.hid hbU; have HPU := Lib.hid hpU
  clear hU hbU hb hB z0 o0 hz u
  have hUl := HPU.out.lt
  clear hpU
  go_loopw [8, 9, 10] (fun vo vk vok wr => ∃ (m : Nat) (xs : List Nat), vk = .int .i64 (pa26 l m) ∧ vok = .bool (decide (0 < m)) ∧ m < N ∧ m ≤ n ∧ OwnN wr U.heap.size vo xs ∧ xs ++ upsN (pa26 l) (clip26 l) m = upsN (pa26 l) (clip26 l) n ∧ Below U.heap.size U wr ∧ Has wr w.heap.size #[.pointer (some ⟨pt, 0, none⟩), .map (some bn)] 123) (fun _ vk vok _ => if okOf vok then (intOf vk).toNat + 1 else 0)
  case atStart => exact ⟨n, [], rfl, rfl, hn, Nat.le_refl _, ownN_nil _ _, rfl, Below.refl _ _, HPU.out⟩
  case round =>
    obtain ⟨m, xs, rfl, rfl, hm, hmn, ho, hxs, hb, hp⟩ := hrel
    have HO := Lib.hid ho; have HXS := Lib.hid hxs; have HBR := Lib.hid hb
    have HBW := Lib.hid (HBU.out.trans (hb.mono HBU.out.size))
    have hul := upsN_len (pa := pa26 l) (clp := clip26 l) HPA.out n
    have hxl : xs.length ≤ 60 := by have := congrArg List.length hxs; rw [List.length_append] at this; omega
    obtain ⟨ax, cx, rfl⟩ := ho.shape
    have cp := hp.cells; have lp := hp.lt; have op : Old wr w.heap.size := lp
    have hsr := hb.size
    rcases Nat.eq_zero_or_pos m with c | c
    · subst c
      have HE := Lib.hid (show xs = upsN (pa26 l) (clip26 l) n by rw [← hxs, upsN_zero, List.append_nil])
      clear ho hxs hb hp
      go_wp2_with (go_at_call 44; refine (rev_own HO.out (by omega)).mono ?_; rintro e w' ⟨rfl, hown, hgrow⟩)
      go_ret
      refine ⟨_, rfl, by rw [← HE.out]; exact hown.wide (by omega), Below.grown HBW.out hgrow (by omega) (fun bb h => by have := row_block HO.out bb h; omega)⟩
    · have hlt := HPA.out m c
      have HX := Lib.hid (upsN_pos (pa := pa26 l) (clp := clip26 l) HPA.out c)
      have htx := pa26_tx l m
      obtain ⟨k, hk⟩ : ∃ k, pa26 l m = k := ⟨_, rfl⟩
      rw [hk] at HX htx hlt
      rw [hk]
      have HB := Lib.hid (fun X (hX : Below wr.heap.size wr X) => pbox_any l N pt bm bn k base R X hN (by omega) (HI.out.below (HBW.out.trans (hX.mono HBW.out.size))))
      rw [htx] at HB
      have HPU2 := Lib.hid hp
      clear ho hxs hb hp hk htx
      have hov : clip26 l k = decide (1 + (nd26 l k).ov % 3 ≠ 1) := by unfold clip26; congr 1; apply propext; omega
      have HOV := Lib.hid hov
      clear hov
      obtain ⟨zz, hzz⟩ : ∃ z, (nd26 l k).z = z := ⟨_, rfl⟩
      obtain ⟨au, hau⟩ : ∃ z, (nd26 l k).au = z := ⟨_, rfl⟩
      obtain ⟨po, hpo⟩ : ∃ z, 1 + (nd26 l k).pos % 3 = z := ⟨_, rfl⟩
      obtain ⟨ov', hov⟩ : ∃ z, 1 + (nd26 l k).ov % 3 = z := ⟨_, rfl⟩
      rw [hzz, hau, hpo, hov] at HB
      rw [hov] at HOV
      clear hzz hau hpo hov
      go_upto_region 7 with ((go_at_call 43; (with_reducible refine (HB.out _ (by (repeat' (first | (with_reducible exact Below.refl _ _) | (with_reducible assumption) | (with_reducible refine below_from_drew ?_) | (with_reducible refine Below.alloc ?_ ?_ _) | (with_reducible refine Below.drew ?_) | (with_reducible refine below_drewN ?_ _) | (with_reducible refine Below.setCell ?_ ?_ _) | (with_reducible refine below_via ?_ (by assumption) ?_) | (with_reducible refine below_ov ?_ ?_ _ _) | go_size)))).mono ?_); rintro e u ⟨rfl, hb⟩; have hz := hb.size; refine (fun hB => ?_ : Below wr.heap.size wr u → _) ?_; rotate_left; (focus ((repeat' (first | (with_reducible exact Below.refl _ _) | (with_reducible assumption) | (with_reducible refine below_from_drew ?_) | (with_reducible refine Below.alloc ?_ ?_ _) | (with_reducible refine Below.drew ?_) | (with_reducible refine below_drewN ?_ _) | (with_reducible refine Below.setCell ?_ ?_ _) | (with_reducible refine below_via ?_ (by assumption) ?_) | (with_reducible refine below_ov ?_ ?_ _ _) | go_size)); done)); (try simp only [World.size_alloc, World.size_setCell, World.size_drew, ov_size] at hz)))
      have hq : ∀ (X : World) (b : Nat), (blkCells X b).size = 62 → runStore Try.prog 74 (.pointer (some ⟨b, 0, none⟩)) (.agg (styC zz au po ov').toArray) X = .ok .skip (putBlk X b (styC zz au po ov').toArray) := fun X b h => bigs_s X b _ h rfl rfl
      have hz2 : ∀ (X : World) (c : Array Value) (T : TypeId), c.size = 62 → X.heap.size = u.heap.size → (blkCells (X.alloc (.cells c T)) u.heap.size).size = 62 := fun X c T h1 h2 => by
        rw [blkCells_new h2.symm]; exact h1
      rw [hq _ _ (hz2 _ _ _ rfl rfl)]
      clear hq hz2
      go_upto_region 7 with fail
      refine name_w (f := Code.wp _ _ _ _) (fun Z hZ => ?_)
      have hbZ : Below wr.heap.size wr Z := by rw [hZ]; (repeat' (first | (with_reducible exact Below.refl _ _) | (with_reducible assumption) | (with_reducible refine below_from_drew ?_) | (with_reducible refine Below.alloc ?_ ?_ _) | (with_reducible refine Below.drew ?_) | (with_reducible refine below_drewN ?_ _) | (with_reducible refine Below.setCell ?_ ?_ _) | (with_reducible refine below_via ?_ (by assumption) ?_) | (with_reducible refine below_ov ?_ ?_ _ _) | go_size))
      have h5 : Has Z u.heap.size (styC zz au po ov').toArray 74 := by rw [hZ]; exact has_new rfl
      have q51 : Z.cell? ⟨u.heap.size, 49 + 2, none⟩ = some (.int .i64 ov') := (h5.cells 51).trans rfl
      have l5 := h5.lt; have o5 : Old Z u.heap.size := l5
      have HBZ := Lib.hid hbZ
      have HOZ := Lib.hid (HO.out.below hbZ)
      have HPZ := Lib.hid (has_below hbZ HPU2.out)
      have HUZ := Lib.hid (fun X (hX : Below Z.heap.size Z X) => HU.out k (by omega) X (HBW.out.trans ((hbZ.trans (hX.mono hbZ.size)).mono HBW.out.size)))
      have hsz := hbZ.size
      clear hZ hbZ h5 hB HB HU cp lp op
      generalize u.heap.size = b5 at *
      by_cases c1 : ov' = 1
      · subst c1
        have HE := Lib.hid (show upsN (pa26 l) (clip26 l) m = upsN (pa26 l) (clip26 l) k by rw [HX.out, HOV.out]; rfl)
        go_wp2_with ((go_at_call 42; (with_reducible refine (HUZ.out _ (by (repeat' (first | (with_reducible exact Below.refl _ _) | (with_reducible assumption) | (with_reducible refine below_from_drew ?_) | (with_reducible refine Below.alloc ?_ ?_ _) | (with_reducible refine Below.drew ?_) | (with_reducible refine below_drewN ?_ _) | (with_reducible refine Below.setCell ?_ ?_ _) | (with_reducible refine below_via ?_ (by assumption) ?_) | (with_reducible refine below_ov ?_ ?_ _ _) | go_size)))).mono ?_); rintro e u8 ⟨rfl, hb⟩; have hz := hb.size; refine (fun hB => ?_ : Below Z.heap.size Z u8 → _) ?_; rotate_left; (focus ((repeat' (first | (with_reducible exact Below.refl _ _) | (with_reducible assumption) | (with_reducible refine below_from_drew ?_) | (with_reducible refine Below.alloc ?_ ?_ _) | (with_reducible refine Below.drew ?_) | (with_reducible refine below_drewN ?_ _) | (with_reducible refine Below.setCell ?_ ?_ _) | (with_reducible refine below_via ?_ (by assumption) ?_) | (with_reducible refine below_ov ?_ ?_ _ _) | go_size)); done)); (try simp only [World.size_alloc, World.size_setCell, World.size_drew, ov_size] at hz)))
        have HB8 := Lib.hid (HBR.out.trans ((HBZ.out.trans (hB.mono HBZ.out.size)).mono HBR.out.size))
        refine ⟨⟨k, xs, rfl, rfl, by omega, by omega, HOZ.out.below hB, by rw [← HE.out]; exact HXS.out, HB8.out, has_below hB HPZ.out⟩, by (have hq : 0 < k → pa26 l k < k := HPA.out k; rcases Nat.eq_zero_or_pos k with d | d <;> simp [okOf, intOf, d, c] <;> omega)⟩
      · have hnb : (ov' != 1) = true := by simpa using c1
        have HE := Lib.hid (show upsN (pa26 l) (clip26 l) m = [k] ++ upsN (pa26 l) (clip26 l) k by rw [HX.out, HOV.out, decide_eq_true c1]; rfl)
        go_upto_region 8 with fail
        go_wp2_with (first | ((go_at_call 42; (with_reducible refine (HUZ.out _ (by (repeat' (first | (with_reducible exact Below.refl _ _) | (with_reducible assumption) | (with_reducible refine below_from_drew ?_) | (with_reducible refine Below.alloc ?_ ?_ _) | (with_reducible refine Below.drew ?_) | (with_reducible refine below_drewN ?_ _) | (with_reducible refine Below.setCell ?_ ?_ _) | (with_reducible refine below_via ?_ (by assumption) ?_) | (with_reducible refine below_ov ?_ ?_ _ _) | go_size)))).mono ?_); rintro e u8 ⟨rfl, hb⟩; have hz := hb.size; refine (fun hB => ?_ : Below Z.heap.size Z u8 → _) ?_; rotate_left; (focus ((repeat' (first | (with_reducible exact Below.refl _ _) | (with_reducible assumption) | (with_reducible refine below_from_drew ?_) | (with_reducible refine Below.alloc ?_ ?_ _) | (with_reducible refine Below.drew ?_) | (with_reducible refine below_drewN ?_ _) | (with_reducible refine Below.setCell ?_ ?_ _) | (with_reducible refine below_via ?_ (by assumption) ?_) | (with_reducible refine below_ov ?_ ?_ _ _) | go_size)); done)); (try simp only [World.size_alloc, World.size_setCell, World.size_drew, ov_size] at hz))) | (at_builtin; refine wpList_app_nat _ rfl _ _ rfl U.heap.size Z.heap.size _ _ xs [k] rfl (HOZ.out.below ((Below.refl _ Z).alloc (Nat.le_refl _) _)) rfl (ownN_one Z k) ?pl ?pb ?_))
        case pl => simp; omega
        case pb => simp; omega
        intro v' w3 hown hgrow
        have hB3 : Below Z.heap.size Z (Z.alloc (.cells #[.int .i64 (k : Int)] 3)) := (Below.refl _ Z).alloc (Nat.le_refl _) _
        have hown0 := HOZ.out.below hB3
        have hBZ : Below U.heap.size U Z := HBR.out.trans (HBZ.out.mono HBR.out.size)
        have hB4 : Below U.heap.size U w3 := Below.grown (hBZ.trans (hB3.mono hBZ.size)) hgrow (by simp; omega) (fun bb h => row_block hown0 bb h)
        have hb4 := Lib.hid hB4
        have hbw4 := Lib.hid (HBU.out.trans (hB4.mono HBU.out.size))
        have hp4 := has_below hB4 HPU.out
        obtain ⟨xs', hxs'⟩ : ∃ ys, xs ++ [k] = ys := ⟨_, rfl⟩
        have HX1 := Lib.hid hxs'
        rw [hxs'] at hown
        obtain ⟨a3, c3, rfl⟩ := hown.shape
        have HO3 := Lib.hid hown; have HP3 := Lib.hid hp4
        have HU3 := Lib.hid (fun X (hX : Below w3.heap.size w3 X) => (up26_any (show k < N by omega) (HI.out.below (hbw4.out.trans (hX.mono hbw4.out.size)))))
        clear hown hgrow hB3 hown0 hBZ hB4 hp4 hxs' HUZ
        go_wp2_with ((go_at_call 42; (with_reducible refine (HU3.out _ (by (repeat' (first | (with_reducible exact Below.refl _ _) | (with_reducible assumption) | (with_reducible refine below_from_drew ?_) | (with_reducible refine Below.alloc ?_ ?_ _) | (with_reducible refine Below.drew ?_) | (with_reducible refine below_drewN ?_ _) | (with_reducible refine Below.setCell ?_ ?_ _) | (with_reducible refine below_via ?_ (by assumption) ?_) | (with_reducible refine below_ov ?_ ?_ _ _) | go_size)))).mono ?_); rintro e u8 ⟨rfl, hb⟩; have hz := hb.size; refine (fun hB => ?_ : Below w3.heap.size w3 u8 → _) ?_; rotate_left; (focus ((repeat' (first | (with_reducible exact Below.refl _ _) | (with_reducible assumption) | (with_reducible refine below_from_drew ?_) | (with_reducible refine Below.alloc ?_ ?_ _) | (with_reducible refine Below.drew ?_) | (with_reducible refine below_drewN ?_ _) | (with_reducible refine Below.setCell ?_ ?_ _) | (with_reducible refine below_via ?_ (by assumption) ?_) | (with_reducible refine below_ov ?_ ?_ _ _) | go_size)); done)); (try simp only [World.size_alloc, World.size_setCell, World.size_drew, ov_size] at hz)))
        refine ⟨⟨k, xs', rfl, rfl, by omega, by omega, HO3.out.below hB, by rw [← HX1.out, List.append_assoc, ← HE.out]; exact HXS.out, hb4.out.trans (hB.mono hb4.out.size), has_below hB HP3.out⟩, by (have hq : 0 < k → pa26 l k < k := HPA.out k; rcases Nat.eq_zero_or_pos k with d | d <;> simp [okOf, intOf, d, c] <;> omega)⟩
end Go.Proofs.Ytjcbphhemmdnjaa
