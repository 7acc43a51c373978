/- append of a slice that may be nil; slices.Grow and slices.Concat, by contract. -/
import Derived.Test.YtkpamofamcndnaaRegE
import Derived.Shelf.Spec.SlicesGrow
import Derived.Sort.OwnSortedInts
namespace Go.Proofs.Ytkpamofamcndnaa
open Go.RowKit Go.Shelf
set_option linter.unusedSimpArgs false
set_option linter.unusedVariables false
-- below_from_drew
attribute [local go_sem] ov_cell_same ov_cell_other ov_frozen_same ov_frozen_other ov_size ov_setCell_same ov_setCell_other cell_alloc_old frozen_alloc_old setCell_alloc_old old_alloc old_ov old_drew old_drewN old_setCell
attribute [local go_sem ↓] run_max2 run_min2

section
variable {P : Program} (w : World)
theorem run_append_none' (base : Nat) (t ty e : TypeId) (i : TypeInfo) (size : Nat) (ht : P.underlying t = some (.slice e)) (hi : P.info? e = some i)
    (v : Value) (n c : Nat) (xs : List Value) (hown : w.ownsRow base e size v n xs) : (Builtin.append_ #[t, t] ty #[v, .slice none 0 c]).run P w = .ok v w := by
  rcases hown.2 with ⟨rfl, rfl⟩ | ⟨g, cap, cur, rfl, _, _, hnc, _⟩
  · simp [Builtin.append_, run_underlying ht, sizeOf, typeInfo, hi, Builtin.lenOf, Builtin.firstCells]
  · simp [Builtin.append_, run_underlying ht, sizeOf, typeInfo, hi, Builtin.lenOf, Builtin.firstCells, hnc, storeCells]
/-- An append onto a slice of the call's own, of a slice that may be nil. -/
theorem wpList_append_opt {ops : Array Oper} {rest : List Oper} {o : Oper} {a : Act} {Q : Exit → Act → World → Prop} (hgd : o.guard = none) (s x : Operand) (t : TypeId)
    (ho : o.op = .call { callee := .builtin .append, args := #[s, x], argTypes := #[t, t] })
    (base : Nat) (e : TypeId) (i : TypeInfo) (z : Value) (size bytes : Nat) (ht : P.underlying t = some (.slice e)) (hi : P.info? e = some i) (hz : i.zero = some z)
    (hsize : i.size = size) (hby : i.bytes = bytes) (hzs : z.cells.size = size) (hsz : 0 < size)
    (v : Value) (n : Nat) (xs : List Value) (hs : a.eval s = v) (hown : w.ownsRow base e size v n xs)
    (ad : Option Addr) (m c : Nat) (news : List Value) (hx : a.eval x = .slice ad m c) (hl : news.length = m * size) (hnews : 0 < m → ∃ b off, ad = some ⟨b, off, none⟩ ∧ ∀ j u, news[j]? = some u → w.cell? ⟨b, off + j, none⟩ = some u) (h1 : ∀ u ∈ news, u.oneCell' = true)
    (h63 : n + m ≤ maxLen) (hbytes : (n + m) * bytes ≤ 140737488355328) (hbase : base ≤ w.heap.size)
    (h : ∀ v' w', w'.ownsRow base e size v' (n + m) (xs ++ news) → w.grownBy w' v.ownBlock → wpList P ops Q rest (a.put o.dst v') w') : wpList P ops Q (o :: rest) a w := by
  cases ad with
  | some b =>
    refine wpList_append_own w hgd s x t ho base e i z size bytes ht hi hz hsize hby hzs hsz v n xs hs hown b m c news hx hl ?_ h1 h63 hbytes hbase (fun v' w' h2 h3 _ => h v' w' h2 h3)
    intro j u hj
    have hm : 0 < m := by
      rcases Nat.eq_zero_or_pos m with q | q
      · subst q
        have h0 : news.length = 0 := by rw [hl]; omega
        have := (List.getElem?_eq_some_iff.1 hj).1
        omega
      · exact q
    obtain ⟨b', off, e, hc⟩ := hnews hm
    cases e
    rw [Addr.add_lit]
    exact hc j u hj
  | none =>
    have hm : m = 0 := by
      rcases Nat.eq_zero_or_pos m with q | q
      · exact q
      · obtain ⟨b, off, e, _⟩ := hnews q; cases e
    subst hm
    have hn : news = [] := List.eq_nil_of_length_eq_zero (by rw [hl]; omega)
    subst hn
    refine wpList_plain hgd fun K hK => ?_
    unfold Oper.wp execOp
    simp only [ho, resolve, invoke, builtin, Sem.run_bind, Sem.run_pure, Result.andThen_ok, List.map_toArray, List.map_cons, List.map_nil, hs, hx, run_append_none' (P := P) w base t o.type e i size ht hi v n c xs hown]
    exact hK _ _ (h v w (by rw [List.append_nil]; exact hown) ⟨rfl, rfl, rfl, Nat.le_refl _, fun _ _ _ => rfl⟩)
end
/-- What a slice's cells hold, m cells in all. -/
def CellsIn (w : World) (a : Option Addr) (n : Nat) (news : List Value) : Prop := 0 < n → ∃ b off, a = some ⟨b, off, none⟩ ∧ b < w.heap.size ∧ ∀ j u, news[j]? = some u → w.cell? ⟨b, off + j, none⟩ = some u
theorem CellsIn.below {w w1 : World} {a : Option Addr} {n : Nat} {xs : List Value} (h : CellsIn w a n xs) (hb : Below w.heap.size w w1) : CellsIn w1 a n xs := fun h0 => by
  obtain ⟨b, off, h1, h2, h4⟩ := h h0
  exact ⟨b, off, h1, Nat.lt_of_lt_of_le h2 hb.size, fun j u hj => (hb.cell (p := ⟨b, off + j, none⟩) h2).trans (h4 j u hj)⟩
theorem CellsIn.up {w w1 : World} {a : Option Addr} {n : Nat} {xs : List Value} (h : CellsIn w a n xs) (hb : Below w.heap.size w w1) : 0 < n → ∃ b off, a = some ⟨b, off, none⟩ ∧ ∀ j u, xs[j]? = some u → w1.cell? ⟨b, off + j, none⟩ = some u := fun h0 => by
  obtain ⟨b, off, h1, h2, h4⟩ := (h.below hb) h0
  exact ⟨b, off, h1, h4⟩
/-- Where the first loop of Concat stands. -/
def ConS (w : World) (n m : Nat) (sv iv : Value) (wr : World) : Prop := wr = w ∧ ((iv = .int .i64 0 ∧ sv = .int .i64 0) ∨ (iv = .int .i64 1 ∧ sv = .int .i64 (n : Int)) ∨ (iv = .int .i64 2 ∧ sv = .int .i64 ((n : Int) + (m : Int))))

theorem infoI : (Try.prog.info? 3).map (fun i => (i.zero, i.size, i.bytes)) = some (some (.int .i64 0), 1, 8) := by kernel_rfl
def rhoGI : Ren := ⟨fun n => if n = 4 then 94 else 0, fun t => if t = 3 then 3 else if t = 4 then 4 else if t = 9 then 9 else if t = 20 then 20 else if t = 22 then 71 else if t = 25 then 3 else t, fun g => g⟩
set_option maxRecDepth 1000000 in
theorem laysGI : Lays8.n4 Try.prog rhoGI where
  mixed := by kernel_rfl
  f4 := ⟨Try.f94.name, by kernel_rfl, by kernel_rfl⟩
  t0 := by kernel_rfl
  a0 := fun w => by kernel_rfl
  z0 := fun w => by kernel_rfl
  v0 := fun w => by kernel_rfl
  t3 := by kernel_rfl
  a3 := fun w => by kernel_rfl
  z3 := fun w => by kernel_rfl
  v3 := fun w => by kernel_rfl
  t4 := by kernel_rfl
  a4 := fun w => by kernel_rfl
  z4 := fun w => by kernel_rfl
  v4 := fun w => by kernel_rfl
  t9 := by kernel_rfl
  a9 := fun w => by kernel_rfl
  z9 := fun w => by kernel_rfl
  v9 := fun w => by kernel_rfl
  t20 := by kernel_rfl
  a20 := fun w => by kernel_rfl
  z20 := fun w => by kernel_rfl
  v20 := fun w => by kernel_rfl
  t22 := by kernel_rfl
  a22 := fun w => by kernel_rfl
  z22 := fun w => by kernel_rfl
  v22 := fun w => by kernel_rfl
/-- Room made for k elements, from nil. -/
theorem growI_any (k : Nat) (w : World) (hk : k ≤ 1000000000000) : Calls Try.prog 94 #[.slice none 0 0, .int .i64 (k : Int)] w fun e w' => ∃ v, e = .returned v ∧ w'.ownsRow w.heap.size 3 1 v 0 [] ∧ Below w.heap.size w w' := by
  obtain ⟨i0, hi, hz0, hz1, hz2⟩ := info_parts infoI
  rcases Nat.eq_zero_or_pos k with h0 | h0
  · subst h0
    refine (Any8.slices_Grow_room laysGI none 0 0 0 w (Nat.le_refl _) (by omega) (by omega) (by omega)).mono ?_
    rintro e w' ⟨rfl, rfl⟩
    exact ⟨_, rfl, World.ownsRow_nil _ _ _ _, Below.refl _ _⟩
  · refine (Any8.slices_Grow_grow laysGI i0 (.int .i64 0) hi hz0 (by rw [hz1]; omega) none 0 0 k [] w (Nat.le_refl _) (by omega) (by rw [hz2]; omega) (by omega) (by simp) (fun _ => rfl) (fun a h => by cases h)).mono ?_
    rintro e w' ⟨rfl, rfl⟩
    have hge := grownCap_ge w (0 + k) 0 3
    refine ⟨_, rfl, ⟨by simp, .inr ⟨w.heap.size, _, _, rfl, Nat.le_refl _, heap_alloc_new w.drew _, Nat.zero_le _, grownCap_le_maxLen w (0 + k) 0 _ (by unfold maxLen; omega), ?_, ?_⟩⟩, by (repeat' (first | (with_reducible exact Below.refl _ _) | (with_reducible assumption) | (with_reducible refine below_from_drew ?_) | (with_reducible refine Below.alloc ?_ ?_ _) | (with_reducible refine Below.drew ?_) | (with_reducible refine below_drewN ?_ _) | (with_reducible refine Below.setCell ?_ ?_ _) | (with_reducible refine below_via ?_ (by assumption) ?_) | (with_reducible refine below_ov ?_ ?_ _ _) | go_size))⟩
    · rw [Array.size_append, Array.size_append, size_zeroCells, size_zeroCells, Nat.zero_add, Nat.sub_zero]
      have hge2 : k ≤ grownCap w k 0 (rhoGI.t 25) := by rw [Nat.zero_add] at hge; exact hge
      generalize grownCap w k 0 (rhoGI.t 25) = G at hge2 ⊢
      show 0 + k * 1 + (G - k) * 1 = G * 1
      omega
    · simp
/-- Where the second loop of Concat stands. -/
def ConAI (w : World) (g n c m d : Nat) (a1 a2 : Option Addr) (xs ys : List Value) (v iv : Value) (wr : World) : Prop := Below w.heap.size w wr ∧ ((iv = .int .i64 0 ∧ wr.ownsRow w.heap.size 3 1 v 0 []) ∨ (iv = .int .i64 1 ∧ wr.ownsRow w.heap.size 3 1 v n xs) ∨ (iv = .int .i64 2 ∧ wr.ownsRow w.heap.size 3 1 v (n + m) (xs ++ ys)))
set_option maxRecDepth 100000 in
set_option maxHeartbeats 4000000 in
theorem concatI_any (g n c m d : Nat) (a1 a2 : Option Addr) (xs ys : List Value) (T : TypeId) (w : World) (hg : Has w g #[.slice a1 n c, .slice a2 m d] T) (hn : n ≤ 100000000000) (hm : m ≤ 100000000000)
    (hx : CellsIn w a1 n xs) (hy : CellsIn w a2 m ys) (hxl : xs.length = n * 1) (hyl : ys.length = m * 1) (hx1 : ∀ u ∈ xs, u.oneCell' = true) (hy1 : ∀ u ∈ ys, u.oneCell' = true) :
    Calls Try.prog 87 #[.slice (some ⟨g, 0, none⟩) 2 2] w fun e w' => ∃ v, e = .returned v ∧ w'.ownsRow w.heap.size 3 1 v (n + m) (xs ++ ys) ∧ Below w.heap.size w w' := by
  obtain ⟨i0, hi, hz0, hz1, hz2⟩ := info_parts infoI
  have HX := Lib.hid hx; have HY := Lib.hid hy; have HXL := Lib.hid hxl; have HYL := Lib.hid hyl; have HX1 := Lib.hid hx1; have HY1 := Lib.hid hy1; have HG := Lib.hid hg
  have c0 := has_cell hg (o := 0) rfl
  have c1 := has_cell hg (o := 1) rfl
  have hgl := hg.lt
  clear hx hy hxl hyl hx1 hy1 hg
  go_enter Try.func87, Try.ntmps87
  go_wp2_with fail
  go_loopw [3, 11] (fun sv iv wr => ConS w n m sv iv wr) (fun _ iv _ => 2 - (intOf iv).toNat)
  case atStart => exact ⟨rfl, .inl ⟨rfl, rfl⟩⟩
  case round =>
    obtain ⟨rfl, ⟨rfl, rfl⟩ | ⟨rfl, rfl⟩ | ⟨rfl, rfl⟩⟩ := hrel
    · go_wp2_with fail
      go_roundw
      case rel => exact ⟨rfl, .inr (.inl ⟨by go_num, by first | rfl | (congr 1; omega)⟩)⟩
      case measure => simp [intOf]
    · go_wp2_with fail
      go_roundw
      case rel => exact ⟨rfl, .inr (.inr ⟨by go_num, rfl⟩)⟩
      case measure => simp [intOf]
    · have hk : ((n : Int) + (m : Int)) = ((n + m : Nat) : Int) := by omega
      rw [hk]
      have HGR := Lib.hid (growI_any (n + m) wr (by omega))
      clear hk
      go_wp2_with fail
      refine HGR.out.mono ?_
      rintro e w1 ⟨v, rfl, hown, hb⟩
      have HO := Lib.hid hown; have HB := Lib.hid hb
      clear hown hb c0 c1
      go_wp2_with fail
      go_loopw [6, 27] (fun v iv wq => ConAI wr g n c m d a1 a2 xs ys v iv wq) (fun _ iv _ => 2 - (intOf iv).toNat)
      case atStart => exact ⟨HB.out, .inl ⟨rfl, HO.out⟩⟩
      case round =>
        obtain ⟨hbq, ⟨rfl, hown⟩ | ⟨rfl, hown⟩ | ⟨rfl, hown⟩⟩ := hrel
        · have HBQ := Lib.hid hbq; have HOQ := Lib.hid hown
          have hGQ := has_below hbq HG.out
          have c0 := has_cell hGQ (o := 0) rfl
          have c1 := has_cell hGQ (o := 1) rfl
          have hgl := hGQ.lt
          clear hbq hown hGQ
          go_wp2_with (at_builtin; refine wpList_append_opt _ rfl _ _ 71 rfl _ 3 i0 (.int .i64 0) 1 8 Try.underlying71 hi hz0 hz1 hz2 rfl (by decide) _ _ _ rfl HOQ.out a1 n c xs rfl HXL.out (HX.out.up HBQ.out) HX1.out ?p1 ?p2 HBQ.out.size ?_)
          case p1 => unfold maxLen; omega
          case p2 => omega
          intro v' w2 hown2 hgrow2
          have hB2 : Below _ _ w2 := Below.grown HBQ.out hgrow2 HBQ.out.size (fun bb h => by have := row_block HOQ.out bb h; omega)
          have HB2 := Lib.hid hB2; have HO2 := Lib.hid hown2
          clear hgrow2 hB2 hown2 c0 c1
          go_wp2_with fail
          go_roundw
          case rel => exact ⟨HB2.out, .inr (.inl ⟨by go_num, by have q := HO2.out; (try simp only [Nat.zero_add, List.nil_append] at q); exact q⟩)⟩
          case measure => simp [intOf]
        · have HBQ := Lib.hid hbq; have HOQ := Lib.hid hown
          have hGQ := has_below hbq HG.out
          have c0 := has_cell hGQ (o := 0) rfl
          have c1 := has_cell hGQ (o := 1) rfl
          have hgl := hGQ.lt
          clear hbq hown hGQ
          go_wp2_with (at_builtin; refine wpList_append_opt _ rfl _ _ 71 rfl _ 3 i0 (.int .i64 0) 1 8 Try.underlying71 hi hz0 hz1 hz2 rfl (by decide) _ _ _ rfl HOQ.out a2 m d ys rfl HYL.out (HY.out.up HBQ.out) HY1.out ?p1 ?p2 HBQ.out.size ?_)
          case p1 => unfold maxLen; omega
          case p2 => omega
          intro v' w2 hown2 hgrow2
          have hB2 : Below _ _ w2 := Below.grown HBQ.out hgrow2 HBQ.out.size (fun bb h => by have := row_block HOQ.out bb h; omega)
          have HB2 := Lib.hid hB2; have HO2 := Lib.hid hown2
          clear hgrow2 hB2 hown2 c0 c1
          go_wp2_with fail
          go_roundw
          case rel => exact ⟨HB2.out, .inr (.inr ⟨by go_num, HO2.out⟩)⟩
          case measure => simp [intOf]
        · have HBQ := Lib.hid hbq; have HOQ := Lib.hid hown
          clear hbq hown
          go_wp2_with fail
          go_ret
          exact ⟨_, rfl, HOQ.out, HBQ.out⟩

theorem infoB : (Try.prog.info? 115).map (fun i => (i.zero, i.size, i.bytes)) = some (some (.agg #[.int .i64 0, .int .i64 0, .slice none 0 0]), 3, 40) := by kernel_rfl
def rhoGB : Ren := ⟨fun n => if n = 4 then 91 else 0, fun t => if t = 3 then 3 else if t = 4 then 4 else if t = 9 then 9 else if t = 20 then 20 else if t = 22 then 24 else if t = 25 then 115 else t, fun g => g⟩
set_option maxRecDepth 1000000 in
theorem laysGB : Lays8.n4 Try.prog rhoGB where
  mixed := by kernel_rfl
  f4 := ⟨Try.f91.name, by kernel_rfl, by kernel_rfl⟩
  t0 := by kernel_rfl
  a0 := fun w => by kernel_rfl
  z0 := fun w => by kernel_rfl
  v0 := fun w => by kernel_rfl
  t3 := by kernel_rfl
  a3 := fun w => by kernel_rfl
  z3 := fun w => by kernel_rfl
  v3 := fun w => by kernel_rfl
  t4 := by kernel_rfl
  a4 := fun w => by kernel_rfl
  z4 := fun w => by kernel_rfl
  v4 := fun w => by kernel_rfl
  t9 := by kernel_rfl
  a9 := fun w => by kernel_rfl
  z9 := fun w => by kernel_rfl
  v9 := fun w => by kernel_rfl
  t20 := by kernel_rfl
  a20 := fun w => by kernel_rfl
  z20 := fun w => by kernel_rfl
  v20 := fun w => by kernel_rfl
  t22 := by kernel_rfl
  a22 := fun w => by kernel_rfl
  z22 := fun w => by kernel_rfl
  v22 := fun w => by kernel_rfl
/-- Room made for k elements, from nil. -/
theorem growB_any (k : Nat) (w : World) (hk : k ≤ 1000000000000) : Calls Try.prog 91 #[.slice none 0 0, .int .i64 (k : Int)] w fun e w' => ∃ v, e = .returned v ∧ w'.ownsRow w.heap.size 115 3 v 0 [] ∧ Below w.heap.size w w' := by
  obtain ⟨i0, hi, hz0, hz1, hz2⟩ := info_parts infoB
  rcases Nat.eq_zero_or_pos k with h0 | h0
  · subst h0
    refine (Any8.slices_Grow_room laysGB none 0 0 0 w (Nat.le_refl _) (by omega) (by omega) (by omega)).mono ?_
    rintro e w' ⟨rfl, rfl⟩
    exact ⟨_, rfl, World.ownsRow_nil _ _ _ _, Below.refl _ _⟩
  · refine (Any8.slices_Grow_grow laysGB i0 (.agg #[.int .i64 0, .int .i64 0, .slice none 0 0]) hi hz0 (by rw [hz1]; omega) none 0 0 k [] w (Nat.le_refl _) (by omega) (by rw [hz2]; omega) (by omega) (by simp) (fun _ => rfl) (fun a h => by cases h)).mono ?_
    rintro e w' ⟨rfl, rfl⟩
    have hge := grownCap_ge w (0 + k) 0 115
    refine ⟨_, rfl, ⟨by simp, .inr ⟨w.heap.size, _, _, rfl, Nat.le_refl _, heap_alloc_new w.drew _, Nat.zero_le _, grownCap_le_maxLen w (0 + k) 0 _ (by unfold maxLen; omega), ?_, ?_⟩⟩, by (repeat' (first | (with_reducible exact Below.refl _ _) | (with_reducible assumption) | (with_reducible refine below_from_drew ?_) | (with_reducible refine Below.alloc ?_ ?_ _) | (with_reducible refine Below.drew ?_) | (with_reducible refine below_drewN ?_ _) | (with_reducible refine Below.setCell ?_ ?_ _) | (with_reducible refine below_via ?_ (by assumption) ?_) | (with_reducible refine below_ov ?_ ?_ _ _) | go_size))⟩
    · rw [Array.size_append, Array.size_append, size_zeroCells, size_zeroCells, Nat.zero_add, Nat.sub_zero]
      have hge2 : k ≤ grownCap w k 0 (rhoGB.t 25) := by rw [Nat.zero_add] at hge; exact hge
      generalize grownCap w k 0 (rhoGB.t 25) = G at hge2 ⊢
      show 0 + k * 3 + (G - k) * 3 = G * 3
      omega
    · simp
/-- Where the second loop of Concat stands. -/
def ConAB (w : World) (g n c m d : Nat) (a1 a2 : Option Addr) (xs ys : List Value) (v iv : Value) (wr : World) : Prop := Below w.heap.size w wr ∧ ((iv = .int .i64 0 ∧ wr.ownsRow w.heap.size 115 3 v 0 []) ∨ (iv = .int .i64 1 ∧ wr.ownsRow w.heap.size 115 3 v n xs) ∨ (iv = .int .i64 2 ∧ wr.ownsRow w.heap.size 115 3 v (n + m) (xs ++ ys)))
set_option maxRecDepth 100000 in
set_option maxHeartbeats 4000000 in
theorem concatB_any (g n c m d : Nat) (a1 a2 : Option Addr) (xs ys : List Value) (T : TypeId) (w : World) (hg : Has w g #[.slice a1 n c, .slice a2 m d] T) (hn : n ≤ 100000000000) (hm : m ≤ 100000000000)
    (hx : CellsIn w a1 n xs) (hy : CellsIn w a2 m ys) (hxl : xs.length = n * 3) (hyl : ys.length = m * 3) (hx1 : ∀ u ∈ xs, u.oneCell' = true) (hy1 : ∀ u ∈ ys, u.oneCell' = true) :
    Calls Try.prog 83 #[.slice (some ⟨g, 0, none⟩) 2 2] w fun e w' => ∃ v, e = .returned v ∧ w'.ownsRow w.heap.size 115 3 v (n + m) (xs ++ ys) ∧ Below w.heap.size w w' := by
  obtain ⟨i0, hi, hz0, hz1, hz2⟩ := info_parts infoB
  have HX := Lib.hid hx; have HY := Lib.hid hy; have HXL := Lib.hid hxl; have HYL := Lib.hid hyl; have HX1 := Lib.hid hx1; have HY1 := Lib.hid hy1; have HG := Lib.hid hg
  have c0 := has_cell hg (o := 0) rfl
  have c1 := has_cell hg (o := 1) rfl
  have hgl := hg.lt
  clear hx hy hxl hyl hx1 hy1 hg
  go_enter Try.func83, Try.ntmps83
  go_wp2_with fail
  go_loopw [3, 11] (fun sv iv wr => ConS w n m sv iv wr) (fun _ iv _ => 2 - (intOf iv).toNat)
  case atStart => exact ⟨rfl, .inl ⟨rfl, rfl⟩⟩
  case round =>
    obtain ⟨rfl, ⟨rfl, rfl⟩ | ⟨rfl, rfl⟩ | ⟨rfl, rfl⟩⟩ := hrel
    · go_wp2_with fail
      go_roundw
      case rel => exact ⟨rfl, .inr (.inl ⟨by go_num, by first | rfl | (congr 1; omega)⟩)⟩
      case measure => simp [intOf]
    · go_wp2_with fail
      go_roundw
      case rel => exact ⟨rfl, .inr (.inr ⟨by go_num, rfl⟩)⟩
      case measure => simp [intOf]
    · have hk : ((n : Int) + (m : Int)) = ((n + m : Nat) : Int) := by omega
      rw [hk]
      have HGR := Lib.hid (growB_any (n + m) wr (by omega))
      clear hk
      go_wp2_with fail
      refine HGR.out.mono ?_
      rintro e w1 ⟨v, rfl, hown, hb⟩
      have HO := Lib.hid hown; have HB := Lib.hid hb
      clear hown hb c0 c1
      go_wp2_with fail
      go_loopw [6, 27] (fun v iv wq => ConAB wr g n c m d a1 a2 xs ys v iv wq) (fun _ iv _ => 2 - (intOf iv).toNat)
      case atStart => exact ⟨HB.out, .inl ⟨rfl, HO.out⟩⟩
      case round =>
        obtain ⟨hbq, ⟨rfl, hown⟩ | ⟨rfl, hown⟩ | ⟨rfl, hown⟩⟩ := hrel
        · have HBQ := Lib.hid hbq; have HOQ := Lib.hid hown
          have hGQ := has_below hbq HG.out
          have c0 := has_cell hGQ (o := 0) rfl
          have c1 := has_cell hGQ (o := 1) rfl
          have hgl := hGQ.lt
          clear hbq hown hGQ
          go_wp2_with (at_builtin; refine wpList_append_opt _ rfl _ _ 24 rfl _ 115 i0 (.agg #[.int .i64 0, .int .i64 0, .slice none 0 0]) 3 40 Try.underlying24 hi hz0 hz1 hz2 rfl (by decide) _ _ _ rfl HOQ.out a1 n c xs rfl HXL.out (HX.out.up HBQ.out) HX1.out ?p1 ?p2 HBQ.out.size ?_)
          case p1 => unfold maxLen; omega
          case p2 => omega
          intro v' w2 hown2 hgrow2
          have hB2 : Below _ _ w2 := Below.grown HBQ.out hgrow2 HBQ.out.size (fun bb h => by have := row_block HOQ.out bb h; omega)
          have HB2 := Lib.hid hB2; have HO2 := Lib.hid hown2
          clear hgrow2 hB2 hown2 c0 c1
          go_wp2_with fail
          go_roundw
          case rel => exact ⟨HB2.out, .inr (.inl ⟨by go_num, by have q := HO2.out; (try simp only [Nat.zero_add, List.nil_append] at q); exact q⟩)⟩
          case measure => simp [intOf]
        · have HBQ := Lib.hid hbq; have HOQ := Lib.hid hown
          have hGQ := has_below hbq HG.out
          have c0 := has_cell hGQ (o := 0) rfl
          have c1 := has_cell hGQ (o := 1) rfl
          have hgl := hGQ.lt
          clear hbq hown hGQ
          go_wp2_with (at_builtin; refine wpList_append_opt _ rfl _ _ 24 rfl _ 115 i0 (.agg #[.int .i64 0, .int .i64 0, .slice none 0 0]) 3 40 Try.underlying24 hi hz0 hz1 hz2 rfl (by decide) _ _ _ rfl HOQ.out a2 m d ys rfl HYL.out (HY.out.up HBQ.out) HY1.out ?p1 ?p2 HBQ.out.size ?_)
          case p1 => unfold maxLen; omega
          case p2 => omega
          intro v' w2 hown2 hgrow2
          have hB2 : Below _ _ w2 := Below.grown HBQ.out hgrow2 HBQ.out.size (fun bb h => by have := row_block HOQ.out bb h; omega)
          have HB2 := Lib.hid hB2; have HO2 := Lib.hid hown2
          clear hgrow2 hB2 hown2 c0 c1
          go_wp2_with fail
          go_roundw
          case rel => exact ⟨HB2.out, .inr (.inr ⟨by go_num, HO2.out⟩)⟩
          case measure => simp [intOf]
        · have HBQ := Lib.hid hbq; have HOQ := Lib.hid hown
          clear hbq hown
          go_wp2_with fail
          go_ret
          exact ⟨_, rfl, HOQ.out, HBQ.out⟩
end Go.Proofs.Ytkpamofamcndnaa
