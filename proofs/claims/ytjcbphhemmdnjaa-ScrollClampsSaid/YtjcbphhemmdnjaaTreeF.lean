/- package tree: take, put. -/
import Derived.Test.YtjcbphhemmdnjaaTreeE
namespace Go.Proofs.Ytjcbphhemmdnjaa
open Go.RowKit
set_option linter.unusedSimpArgs false
set_option linter.unusedVariables false
-- below_from_drew
-- SOFT
attribute [local go_sem] ov_cell_same ov_cell_other ov_frozen_same ov_frozen_other ov_size ov_setCell_same ov_setCell_other cell_alloc_old frozen_alloc_old setCell_alloc_old old_alloc old_ov old_drew old_drewN old_setCell
attribute [local go_sem ↓] run_max2 run_min2
attribute [local go_sem] node_f0 node_f1 look_node look_node_ok put_node del_node len_node mapOk_alloc mapOf_alloc mapOk_drew mapOf_drew mapOk_drewN mapOf_drewN mapOk_ov mapOf_ov mapOk_put_same mapOf_put_same cell_putM frozen_putM old_putM

theorem IntsAt.to {w w' : World} {a : Option Addr} {xs : List Int} (h : IntsAt w a xs) (hs : w.heap.size ≤ w'.heap.size) (hb : ∀ b off, a = some ⟨b, off, none⟩ → b < w.heap.size → w'.heap[b]? = w.heap[b]?) : IntsAt w' a xs := fun h0 => by
  obtain ⟨b, off, e, hl, hc⟩ := h h0
  refine ⟨b, off, e, Nat.lt_of_lt_of_le hl hs, fun i hi => ?_⟩
  rw [← hc i hi]
  exact World.cell?_of_block (w := w) (hb b off e hl)
/-- A tree with a part detached. -/
structure MidAt (w : World) (p bm : Nat) (base : Nat → Prop) (R S : Rows) (next : Int) : Prop where
  str : Has w p #[.map (some bm), .int .i64 next] 143
  ok : MapOk w bm
  ne : ¬ bm = p
  hp : ∀ b, w.heap.size ≤ b → base b
  hb : ∀ b, w.heap.size ≤ b → base b
  fo : Forest w (fun b => base b ∧ b ≠ p) (mapOf w bm) R S
theorem TreeAt.mid {w : World} {p bm : Nat} {base : Nat → Prop} {R : Rows} {next : Int} (h : TreeAt w p bm base R next) : MidAt w p bm base R [] next := ⟨h.str, h.ok, h.ne, h.hp, h.hb, h.fo⟩
theorem MidAt.tree {w : World} {p bm : Nat} {base : Nat → Prop} {R : Rows} {next : Int} (h : MidAt w p bm base R [] next) (hw : WfR R next) : TreeAt w p bm base R next := ⟨h.str, h.ok, h.ne, h.hp, h.hb, hw, h.fo⟩
/-- Where only the struct, the map and new blocks turn, the nodes stand. -/
theorem Forest.buts {w w' : World} {p bm : Nat} {base : Nat → Prop} {L : List (Int × Value)} {R S : Rows} (h : Forest w (fun b => base b ∧ b ≠ p) L R S) (hok : MapOk w bm) (hb : ButS (fun b => b = p ∨ b = bm) w.heap.size w w') : Forest w' (fun b => base b ∧ b ≠ p) L R S :=
  h.to hb.size (fun b hl hF hc => hb.block b hl (fun q => by
    rcases q with q | q
    · exact hF.2 q
    · obtain ⟨o, ho⟩ := hc
      rw [q, ok_notCells hok] at ho
      cases ho))
theorem NodeOk.buts {w w' : World} {p bm : Nat} {base : Nat → Prop} {v : Value} {par : Int} {ks : List Int} (h : NodeOk w (fun b => base b ∧ b ≠ p) v par ks) (hok : MapOk w bm) (hb : ButS (fun b => b = p ∨ b = bm) w.heap.size w w') : NodeOk w' (fun b => base b ∧ b ≠ p) v par ks :=
  h.to hb.size (fun b hl hF hc => hb.block b hl (fun q => by
    rcases q with q | q
    · exact hF.2 q
    · obtain ⟨o, ho⟩ := hc
      rw [q, ok_notCells hok] at ho
      cases ho))
theorem outL_mid {n : Int} {l r : List Int} (h1 : n ∉ l) (h2 : n ∉ r) : outL n (l ++ n :: r) = l ++ r := by
  rw [outL_append, outL_none h1]
  show l ++ (if n = n then outL n r else _) = _
  rw [if_pos rfl, outL_none h2]
theorem lvl_sub (e : Int) : ∀ (A : Rows) (x : Int), x ∈ lvl e A → x ∈ nums A
  | [], x, h => by cases h
  | y :: A, x, h => by
    have h : x ∈ (if y.2 = e then y.1 :: lvl e A else lvl e A) := h
    split at h
    · rcases List.mem_cons.1 h with q | q
      · rw [q]; exact .head _
      · exact .tail _ (lvl_sub e A x q)
    · exact .tail _ (lvl_sub e A x h)
theorem subR_sub (d : Int) : ∀ (A : Rows) (x : Int × Int), x ∈ subR d A → x ∈ A
  | [], x, h => h
  | y :: A, x, h => by
    have h : x ∈ (if d < y.2 then y :: subR d A else []) := h
    split at h
    · rcases List.mem_cons.1 h with q | q
      · rw [q]; exact .head _
      · exact .tail _ (subR_sub d A x q)
    · cases h
theorem kids_sub (d : Int) (B : Rows) (x : Int) (h : x ∈ kidsR d B) : x ∈ nums B := by
  have := lvl_sub _ _ _ h
  obtain ⟨y, hy, rfl⟩ := List.mem_map.1 this
  exact mem_nums (subR_sub _ _ _ hy)
/-- What is struck out of the kids. -/
theorem InsOk.out {A S B A1 A2 S' : Rows} {p dp n : Int} (h : InsOk A S B A1 A2 S' p dp n) (hnd : (nums (A ++ S ++ B)).Nodup) : outL n (kidsR dp (A2 ++ S ++ B)) = lvl (dp + 1) A2 ++ kidsR dp B := by
  rw [h.kidsP.1]
  have hn : (n, dp + 1) ∈ S := by rw [h.hs]; simp
  have hAS : (nums (A ++ S)).Nodup := by rw [nums_append] at hnd; exact (List.nodup_append.1 hnd).1
  refine outL_mid (fun q => ?_) (fun q => ?_)
  · have := lvl_sub _ _ _ q
    obtain ⟨y, hy, e⟩ := List.mem_map.1 this
    exact nums_apart hAS (show y ∈ A by rw [h.ha]; simp [hy]) hn e
  · have := kids_sub _ _ _ q
    obtain ⟨y, hy, e⟩ := List.mem_map.1 this
    exact nums_apart hnd (List.mem_append_right _ hn) hy e.symm
theorem InsOk.ins {A S B A1 A2 S' : Rows} {p dp n : Int} (h : InsOk A S B A1 A2 S' p dp n) : insL (lvl (dp + 1) A2).length n (kidsR dp (A2 ++ B)) = lvl (dp + 1) A2 ++ n :: kidsR dp B := by
  rw [h.kidsP.2]; simp [insL]
set_option maxRecDepth 100000 in
set_option maxHeartbeats 4000000 in
theorem put_any (p bm : Nat) (base : Nat → Prop) (A S B A1 A2 S' D : Rows) (pp dp n next x0 : Int) (a0 : Option Addr) (c0 : Nat) (w : World) (h : MidAt w p bm base (A ++ B) D next) (hi : InsOk A S B A1 A2 S' pp dp n) (hnd : (nums (A ++ S ++ B)).Nodup)
    (hd : ∀ X m d Y, X ≠ [] → S = X ++ (m, d) :: Y → ∃ v, mlook (mapOf w bm) m = some v ∧ NodeOk w (fun b => base b ∧ b ≠ p) v (parR d X.reverse) (kidsR d Y))
    (hno : ∀ k, k ∉ nums (A ++ B) → k ∉ nums S → mlook (mapOf w bm) k = none) (hlen : (mapOf w bm).length + (if mhas (mapOf w bm) n = true then 0 else 1) = (A ++ S ++ B).length)
    (hn : mgetD (mapOf w bm) n nodeZ = .agg #[.int .i64 x0, .slice a0 (kidsR (dp + 1) S').length c0]) (hn2 : (kidsR (dp + 1) S').length ≤ c0) (hn3 : IntsAt w a0 (kidsR (dp + 1) S')) (hn4 : 0 < (kidsR (dp + 1) S').length → ∀ b off, a0 = some ⟨b, off, none⟩ → base b ∧ b ≠ p)
    (hm : (A ++ B).length ≤ 100000) :
    Calls Try.prog 52 #[.pointer (some ⟨p, 0, none⟩), .int .i64 n, .int .i64 pp, .int .i64 (((lvl (dp + 1) A2).length : Nat) : Int)] w fun e w' => e = .returned (.tuple #[]) ∧ MidAt w' p bm base (A ++ S ++ B) [] next ∧ ButS (fun b => b = p ∨ b = bm) w.heap.size w w' := by
  obtain ⟨v2, hv2, a2, c2, rfl, hc2, hI2, hF2⟩ := h.fo.main A1 pp dp (A2 ++ B) (by rw [hi.ha]; simp)
  have hg2 := mgetD_some (z := nodeZ) hv2
  have hp0 := has_cell h.str (o := 0) rfl
  have hl := h.str.lt
  have hk := h.ok
  have hbl : Old w bm := h.ok.lt
  have hpl : Old w p := h.str.lt
  have hlk : (kidsR dp (A2 ++ B)).length ≤ 1000000 := by
    have h1 := lvl_len (dp + 1) (subR dp (A2 ++ B))
    have h2 : (subR dp (A2 ++ B)).length ≤ (A2 ++ B).length := by
      obtain ⟨B', e, _⟩ := subR_split dp (A2 ++ B)
      have := congrArg List.length e
      simp only [List.length_append] at this ⊢; omega
    have h3 : (A2 ++ B).length ≤ (A ++ B).length := by rw [hi.ha]; simp; omega
    show (lvl (dp + 1) (subR dp (A2 ++ B))).length ≤ _
    omega
  have hle : (lvl (dp + 1) A2).length ≤ (kidsR dp (A2 ++ B)).length := by rw [hi.kidsP.2]; simp
  have hins := hi.ins
  have hnp : n ≠ pp := fun q => nums_apart (show (nums (A ++ S)).Nodup by rw [nums_append] at hnd; exact (List.nodup_append.1 hnd).1) (show (pp, dp) ∈ A by rw [hi.ha]; simp) (show (n, dp + 1) ∈ S by rw [hi.hs]; simp) q.symm
  have hhas : mhas (mapOf w bm) pp = true := mhas_some hv2
  have HT := Lib.hid h; have HI := Lib.hid hi; have HI2 := Lib.hid hI2; have HINS := Lib.hid hins; have HND := Lib.hid hnd; have HD := Lib.hid hd; have HNO := Lib.hid hno; have HLEN := Lib.hid hlen; have HN := Lib.hid hn; have HN2 := Lib.hid hn2; have HN3 := Lib.hid hn3; have HN4 := Lib.hid hn4; have HNP := Lib.hid hnp; have HHAS := Lib.hid hhas
  have hbp : ¬ bm = w.heap.size := by have := h.ok.lt; omega
  have hpp : ¬ p = w.heap.size := by omega
  clear h hi hv2 hI2 hF2 hins hnd hd hno hlen hn hn2 hn3 hn4 hnp hhas
  generalize hks : kidsR dp (A2 ++ B) = ks at *
  generalize hpa : parR dp A1.reverse = pa at *
  generalize hii : (lvl (dp + 1) A2).length = i at *
  have HKS := Lib.hid hks; have HPA := Lib.hid hpa
  clear hks hpa hii
  go_enter Try.func52, Try.ntmps52
  go_wp2_with fail
  refine (clone_any a2 _ c2 ks _ rfl hlk (HI2.out.below (by (repeat' (first | (with_reducible exact Below.refl _ _) | (with_reducible assumption) | (with_reducible refine below_from_drew ?_) | (with_reducible refine Below.alloc ?_ ?_ _) | (with_reducible refine Below.drew ?_) | (with_reducible refine below_drewN ?_ _) | (with_reducible refine Below.setCell ?_ ?_ _) | (with_reducible refine below_via ?_ (by assumption) ?_) | (with_reducible refine below_ov ?_ ?_ _ _) | go_size))))).mono ?_
  rintro e w1 ⟨a3, c3, rfl, hc3, hown, hb⟩
  have HOWN := Lib.hid hown
  have HB0 := Lib.hid hb
  clear hown
  (refine Exists.elim (after1 (w := w) (b0 := w.heap.size) (cs0 := ?_) (T0 := ?_) hb ?_ ?_) ?_; rotate_left 2; (focus ((repeat' (first | (with_reducible exact Below.refl _ _) | (with_reducible assumption) | (with_reducible refine below_from_drew ?_) | (with_reducible refine Below.alloc ?_ ?_ _) | (with_reducible refine Below.drew ?_) | (with_reducible refine below_drewN ?_ _) | (with_reducible refine Below.setCell ?_ ?_ _) | (with_reducible refine below_via ?_ (by assumption) ?_) | (with_reducible refine below_ov ?_ ?_ _ _) | go_size)); done)); (focus ((repeat' (first | (with_reducible refine has_drew ?_) | (with_reducible refine has_drewN ?_) | (with_reducible refine has_new ?_; (first | (with_reducible rfl) | omega | (simp; done) | (simp; omega))) | (with_reducible refine has_ov_same ?_; (first | (with_reducible rfl) | omega | (simp; done) | (simp; omega))) | (with_reducible refine has_alloc ?_) | (with_reducible refine has_ov_other ?_ ?_; (focus (first | (with_reducible rfl) | omega | (simp; done) | (simp; omega)))) | (with_reducible assumption) | (with_reducible exact has_below hB (by assumption)))); done)); rintro u ⟨rfl, hB, hz, z0, o0⟩; (try simp only [World.size_alloc, World.size_setCell, World.size_drew, ov_size] at hz); clear hb)
  have hz2 := HB0.out.size
  simp only [World.size_alloc, ov_size] at hz2
  have hB0 := hB
  go_wp2_with fail
  refine (insert_row (w.heap.size + 1) a3 ks.length c3 i u.heap.size n ks _ hlk hle (by have q := HOWN.out.alloc (.cells #[.int .i64 n] 3); simpa using q) (has_new (by simp)) (fun b off e => by
    have q := (HOWN.out.lt b (by rw [e]; rfl)).2
    simp at q; omega) (by simp; omega)).mono ?_
  rintro e w2 ⟨a4, c4, rfl, hc4, hI4, hf4, hbs⟩
  simp only [World.size_alloc, ov_size] at hbs
  have hbs2 : Below (w.heap.size + 1) ((ov u w.heap.size #[.int .i64 pa, .slice a2 ks.length c2] 140).alloc (.cells #[.int .i64 n] 3)) w2 := (hbs.less (by omega)).below (fun k hk q => by omega)
  have hh2 : Has w2 w.heap.size #[.int .i64 pa, .slice a2 ks.length c2] 140 := (hbs2.block _ (Nat.lt_succ_self _)).trans (has_alloc (has_ov_same z0))
  have hB2 : Below w.heap.size w w2 := by
    have h1 : Below w.heap.size w ((ov u w.heap.size #[.int .i64 pa, .slice a2 ks.length c2] 140).alloc (.cells #[.int .i64 n] 3)) := by (repeat' (first | (with_reducible exact Below.refl _ _) | (with_reducible assumption) | (with_reducible refine below_from_drew ?_) | (with_reducible refine Below.alloc ?_ ?_ _) | (with_reducible refine Below.drew ?_) | (with_reducible refine below_drewN ?_ _) | (with_reducible refine Below.setCell ?_ ?_ _) | (with_reducible refine below_via ?_ (by assumption) ?_) | (with_reducible refine below_ov ?_ ?_ _ _) | go_size))
    exact h1.trans (hbs2.mono (by omega))
  have HI4 := Lib.hid hI4; have HF4 := Lib.hid hf4
  have hp2 := (hB2.cell (p := ⟨p, 0, none⟩) hl).trans hp0
  have hk2 := mapOk_eq (hB2.block bm hbl) hk
  have hz4 : w.heap.size < w2.heap.size := hh2.lt
  have hpl2 : p < w2.heap.size := by omega
  have hobm : Old w2 bm := hk2.lt
  have hko : ∀ cs T, MapOk (ov w2 w.heap.size cs T) bm := fun cs T => mapOk_ov hbp hk2
  have hkd : ∀ cs T, MapOk (ov w2 w.heap.size cs T).drew bm := hko
  have HB2 := Lib.hid hB2
  have HOV := Lib.hid (ov_self hh2)
  clear hI4 hf4 hbs hbs2 hB2 hB0 hB z0 o0 hz hz2 HOWN HB0
  generalize hos : insL i n ks = os at *
  have HOS := Lib.hid hos; clear hos
  rw [← HOV.out]
  clear hh2
  go_wp2_with fail
  refine region_ord [(0, 0), (1, 0), (2, 0), (3, 0), (4, 0), (5, 0), (6, 2)] (by kernel_rfl) (by kernel_rfl) (fun _ _ d _ _ h => by cases d <;> exact h) (fun hS => ?_)
  (refine wpG_read (v := ?_) rfl (.inl ⟨by rfl, fun wx hbx => ?_⟩) ?_; rotate_left; (focus (obtain ⟨cx0, fx0, zx0⟩ := bk hbx (p) (by first | omega | (simp; done) | (simp; omega)); obtain ⟨cx1, fx1, zx1⟩ := bk hbx (w.heap.size) (by first | omega | (simp; done) | (simp; omega)); go_simp; (try go_bits); (try with_reducible rfl))); try simp only [Act.put, List.setIfInBounds_toArray, List.set_cons_zero, List.set_cons_succ])
  (refine wpG_read (v := ?_) rfl (.inl ⟨by rfl, fun wx hbx => ?_⟩) ?_; rotate_left; (focus (obtain ⟨cx0, fx0, zx0⟩ := bk hbx (p) (by first | omega | (simp; done) | (simp; omega)); obtain ⟨cx1, fx1, zx1⟩ := bk hbx (w.heap.size) (by first | omega | (simp; done) | (simp; omega)); go_simp; (try go_bits); (try with_reducible rfl))); try simp only [Act.put, List.setIfInBounds_toArray, List.set_cons_zero, List.set_cons_succ])
  (refine wpG_read (v := ?_) rfl (.inl ⟨by rfl, fun wx hbx => ?_⟩) ?_; rotate_left; (focus (obtain ⟨cx0, fx0, zx0⟩ := bk hbx (p) (by first | omega | (simp; done) | (simp; omega)); obtain ⟨cx1, fx1, zx1⟩ := bk hbx (w.heap.size) (by first | omega | (simp; done) | (simp; omega)); go_simp; (try go_bits); (try with_reducible rfl))); try simp only [Act.put, List.setIfInBounds_toArray, List.set_cons_zero, List.set_cons_succ])
  (refine wpG_read (v := ?_) rfl (.inl ⟨by rfl, fun wx hbx => ?_⟩) ?_; rotate_left; (focus (obtain ⟨cx0, fx0, zx0⟩ := bk hbx (p) (by first | omega | (simp; done) | (simp; omega)); obtain ⟨cx1, fx1, zx1⟩ := bk hbx (w.heap.size) (by first | omega | (simp; done) | (simp; omega)); go_simp; (try go_bits); (try with_reducible rfl))); try simp only [Act.put, List.setIfInBounds_toArray, List.set_cons_zero, List.set_cons_succ])
  (refine wpG_read (v := ?_) rfl (.inl ⟨by rfl, fun wx hbx => ?_⟩) ?_; rotate_left; (focus (obtain ⟨cx0, fx0, zx0⟩ := bk hbx (p) (by first | omega | (simp; done) | (simp; omega)); obtain ⟨cx1, fx1, zx1⟩ := bk hbx (w.heap.size) (by first | omega | (simp; done) | (simp; omega)); go_simp; (try go_bits); (try with_reducible rfl))); try simp only [Act.put, List.setIfInBounds_toArray, List.set_cons_zero, List.set_cons_succ])
  (refine wpG_read (v := ?_) rfl (.inl ⟨by rfl, fun wx hbx => ?_⟩) ?_; rotate_left; (focus (obtain ⟨cx0, fx0, zx0⟩ := bk hbx (p) (by first | omega | (simp; done) | (simp; omega)); obtain ⟨cx1, fx1, zx1⟩ := bk hbx (w.heap.size) (by first | omega | (simp; done) | (simp; omega)); go_simp; (try go_bits); (try with_reducible rfl))); try simp only [Act.put, List.setIfInBounds_toArray, List.set_cons_zero, List.set_cons_succ])
  (refine wpG_late rfl (fun K hK => ?_); go_simp; (try simp only []); (try simp only []); refine hK _ _ ?_; clear hK K; try simp only [Act.put, List.setIfInBounds_toArray, List.set_cons_zero, List.set_cons_succ])
  refine wpG_nil ?_
  have hX : ∃ X, X = putM (ov w2 w.heap.size #[.int .i64 pa, .slice a4 os.length c4] 140).drew bm pp (.agg #[.int .i64 pa, .slice a4 os.length c4]) := ⟨_, rfl⟩
  obtain ⟨X, hX⟩ := hX
  rw [← hX]
  have hW : ButS (fun b => b = p ∨ b = bm) w.heap.size w (ov w2 w.heap.size #[.int .i64 pa, .slice a4 os.length c4] 140).drew := ((ButS.of HB2.out).ovs (.inl (Nat.le_refl _)) _ _).drew
  have hXb : ButS (fun b => b = p ∨ b = bm) w.heap.size w X := by rw [hX]; exact hW.put (.inr (.inr rfl))
  have hXm : mapOf X bm = mput (mapOf w bm) pp (.agg #[.int .i64 pa, .slice a4 os.length c4]) := by
    rw [hX, mapOf_put_same (hkd _ _), mapOf_drew, mapOf_ov hbp, mapOf_eq (HB2.out.block bm hbl)]
  have hXk : MapOk X bm := by rw [hX]; exact mapOk_put_same (hkd _ _)
  have hXs : Has X p #[.map (some bm), .int .i64 next] 143 := by
    rw [hX]; exact has_putM (Ne.symm HT.out.ne) (has_drew (has_ov_other hpp (has_below HB2.out HT.out.str)))
  have hXz : X.heap.size = w2.heap.size := by rw [hX, putM_size]; show (ov _ _ _ _).heap.size = _; rw [ov_size]
  have hXI : IntsAt X a4 os := HI4.out.to (by rw [hXz]; exact Nat.le_refl _) (fun b off e hb4 => by
    have h1 := HF4.out b off e
    have h2 : bm < w.heap.size := hbl
    rw [hX, putM_other (show b ≠ bm by omega)]
    show (w2.heap.setIfInBounds w.heap.size _)[b]? = _
    rw [Array.getElem?_setIfInBounds_ne (by omega)])
  have hXn : mgetD (mapOf X bm) n nodeZ = .agg #[.int .i64 x0, .slice a0 (kidsR (dp + 1) S').length c0] := by
    rw [hXm, mgetD, mlook_put, if_neg HNP.out]; exact HN.out
  have HXB := Lib.hid hXb; have HXM := Lib.hid hXm; have HXS := Lib.hid hXs; have HXI := Lib.hid hXI
  have hXp := has_cell hXs (o := 0) rfl
  have hXpl : Old X p := hXs.lt
  have hXbl : Old X bm := hXk.lt
  have hXpz : p < X.heap.size := hXs.lt
  have hXpn : ¬ p = X.heap.size := by omega
  have hXbn : ¬ bm = X.heap.size := by have h2 : bm < w.heap.size := hbl; omega
  have hwX : w.heap.size < X.heap.size := by omega
  have hka : ∀ cs T, MapOk (X.alloc (.cells cs T)).drew bm := fun cs T => mapOk_alloc hXk
  clear hS hko hkd hp2 hk2 hobm HI4 HB2 HOV hW hXb hXm hXs hXI hX hXz hz4 hpl2
  go_wp2_with fail
  refine region_ord [(0, 0), (1, 0), (2, 0), (3, 0), (4, 0), (5, 0), (6, 2)] (by kernel_rfl) (by kernel_rfl) (fun _ _ d _ _ h => by cases d <;> exact h) (fun hS => ?_)
  (refine wpG_read (v := ?_) rfl (.inl ⟨by rfl, fun wx hbx => ?_⟩) ?_; rotate_left; (focus (obtain ⟨cx0, fx0, zx0⟩ := bk hbx (p) (by first | omega | (simp; done) | (simp; omega)); obtain ⟨cx1, fx1, zx1⟩ := bk hbx (X.heap.size) (by first | omega | (simp; done) | (simp; omega)); go_simp; (try go_bits); (try with_reducible rfl))); try simp only [Act.put, List.setIfInBounds_toArray, List.set_cons_zero, List.set_cons_succ])
  (refine wpG_read (v := ?_) rfl (.inl ⟨by rfl, fun wx hbx => ?_⟩) ?_; rotate_left; (focus (obtain ⟨cx0, fx0, zx0⟩ := bk hbx (p) (by first | omega | (simp; done) | (simp; omega)); obtain ⟨cx1, fx1, zx1⟩ := bk hbx (X.heap.size) (by first | omega | (simp; done) | (simp; omega)); go_simp; (try go_bits); (try with_reducible rfl))); try simp only [Act.put, List.setIfInBounds_toArray, List.set_cons_zero, List.set_cons_succ])
  (refine wpG_read (v := ?_) rfl (.inl ⟨by rfl, fun wx hbx => ?_⟩) ?_; rotate_left; (focus (obtain ⟨cx0, fx0, zx0⟩ := bk hbx (p) (by first | omega | (simp; done) | (simp; omega)); obtain ⟨cx1, fx1, zx1⟩ := bk hbx (X.heap.size) (by first | omega | (simp; done) | (simp; omega)); go_simp; (try go_bits); (try with_reducible rfl))); try simp only [Act.put, List.setIfInBounds_toArray, List.set_cons_zero, List.set_cons_succ])
  (refine wpG_read (v := ?_) rfl (.inl ⟨by rfl, fun wx hbx => ?_⟩) ?_; rotate_left; (focus (obtain ⟨cx0, fx0, zx0⟩ := bk hbx (p) (by first | omega | (simp; done) | (simp; omega)); obtain ⟨cx1, fx1, zx1⟩ := bk hbx (X.heap.size) (by first | omega | (simp; done) | (simp; omega)); go_simp; (try go_bits); (try with_reducible rfl))); try simp only [Act.put, List.setIfInBounds_toArray, List.set_cons_zero, List.set_cons_succ])
  (refine wpG_read (v := ?_) rfl (.inl ⟨by rfl, fun wx hbx => ?_⟩) ?_; rotate_left; (focus (obtain ⟨cx0, fx0, zx0⟩ := bk hbx (p) (by first | omega | (simp; done) | (simp; omega)); obtain ⟨cx1, fx1, zx1⟩ := bk hbx (X.heap.size) (by first | omega | (simp; done) | (simp; omega)); go_simp; (try go_bits); (try with_reducible rfl))); try simp only [Act.put, List.setIfInBounds_toArray, List.set_cons_zero, List.set_cons_succ])
  (refine wpG_read (v := ?_) rfl (.inl ⟨by rfl, fun wx hbx => ?_⟩) ?_; rotate_left; (focus (obtain ⟨cx0, fx0, zx0⟩ := bk hbx (p) (by first | omega | (simp; done) | (simp; omega)); obtain ⟨cx1, fx1, zx1⟩ := bk hbx (X.heap.size) (by first | omega | (simp; done) | (simp; omega)); go_simp; (try go_bits); (try with_reducible rfl))); try simp only [Act.put, List.setIfInBounds_toArray, List.set_cons_zero, List.set_cons_succ])
  (refine wpG_late rfl (fun K hK => ?_); go_simp; (try simp only []); (try simp only []); refine hK _ _ ?_; clear hK K; try simp only [Act.put, List.setIfInBounds_toArray, List.set_cons_zero, List.set_cons_succ])
  refine wpG_nil ?_
  go_end0
  obtain ⟨Y, hY⟩ : ∃ Y, Y = putM (X.alloc (.cells #[.int .i64 pp, .slice a0 (kidsR (dp + 1) S').length c0] 140)).drew bm n (.agg #[.int .i64 pp, .slice a0 (kidsR (dp + 1) S').length c0]) := ⟨_, rfl⟩
  rw [← hY]
  have hYX : ButS (fun b => b = p ∨ b = bm) X.heap.size X Y := by
    rw [hY]; exact (((ButS.refl _ _ _).alloc (Nat.le_refl _) _).drew).put (.inr (.inr rfl))
  have hYb : ButS (fun b => b = p ∨ b = bm) w.heap.size w Y := HXB.out.trans (hYX.less (Nat.le_of_lt hwX))
  have hYm : mapOf Y bm = mput (mput (mapOf w bm) pp (.agg #[.int .i64 pa, .slice a4 os.length c4])) n (.agg #[.int .i64 pp, .slice a0 (kidsR (dp + 1) S').length c0]) := by
    rw [hY, mapOf_put_same (hka _ _), mapOf_drew, mapOf_alloc hXbl, HXM.out]
  have hYs : Has Y p #[.map (some bm), .int .i64 next] 143 := by
    rw [hY]; exact has_putM (Ne.symm HT.out.ne) (has_drew (has_alloc HXS.out))
  have hYk : MapOk Y bm := by rw [hY]; exact mapOk_put_same (hka _ _)
  have hbw : bm < w.heap.size := hbl
  refine ⟨rfl, ⟨hYs, hYk, HT.out.ne, fun b q => HT.out.hp b (Nat.le_trans hYb.size q), fun b q => HT.out.hp b (Nat.le_trans hYb.size q), ?_⟩, hYb⟩
  rw [hYm]
  refine Forest.put HI.out HND.out (L := mapOf w bm) (vp := .agg #[.int .i64 pa, .slice a4 os.length c4]) (vn := .agg #[.int .i64 pp, .slice a0 (kidsR (dp + 1) S').length c0]) (fun X' m d Y' e => ?_) (fun X' m d Y' hX' e => ?_) HNO.out ?_ ?_ (fun k => ?_) ?_
  · obtain ⟨v, k1, k2⟩ := HT.out.fo.main X' m d Y' e
    exact ⟨v, k1, k2.buts hk hYb⟩
  · obtain ⟨v, k1, k2⟩ := HD.out X' m d Y' hX' e
    exact ⟨v, k1, k2.buts hk hYb⟩
  · rw [HPA.out, ← HINS.out]
    refine ⟨a4, c4, rfl, hc4, HXI.out.to hYX.size (fun b off e hbX => hYX.block b hbX (fun q => ?_)), fun _ b off e => ?_⟩
    · have h1 := HF4.out b off e
      rcases q with q | q <;> omega
    · have h1 := HF4.out b off e
      exact ⟨HT.out.hp _ (by omega), by omega⟩
  · exact (show NodeOk w (fun b => base b ∧ b ≠ p) (.agg #[.int .i64 pp, .slice a0 (kidsR (dp + 1) S').length c0]) pp (kidsR (dp + 1) S') from ⟨a0, c0, rfl, HN2.out, HN3.out, HN4.out⟩).buts hk hYb
  · rw [mlook_put, mlook_put]
  · have hp1 : (mput (mapOf w bm) pp (.agg #[.int .i64 pa, .slice a4 os.length c4])).length = (mapOf w bm).length := by rw [mput_length, if_pos HHAS.out]
    have hp2 : mhas (mput (mapOf w bm) pp (.agg #[.int .i64 pa, .slice a4 os.length c4])) n = mhas (mapOf w bm) n := by
      unfold mhas; rw [mlook_put, if_neg HNP.out]
    rw [mput_length, hp2, hp1, ← HLEN.out]
    split <;> rfl
end Go.Proofs.Ytjcbphhemmdnjaa
