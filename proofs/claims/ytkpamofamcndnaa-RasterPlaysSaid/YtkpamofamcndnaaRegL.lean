/- package region: Rects by contract. -/
import Derived.Test.YtkpamofamcndnaaRegK
namespace Go.Proofs.Ytkpamofamcndnaa
open Go.RowKit Go.Shelf
set_option linter.unusedSimpArgs false
set_option linter.unusedVariables false
-- below_from_drew
attribute [local go_sem] ov_cell_same ov_cell_other ov_frozen_same ov_frozen_other ov_size ov_setCell_same ov_setCell_other cell_alloc_old frozen_alloc_old setCell_alloc_old old_alloc old_ov old_drew old_drewN old_setCell
attribute [local go_sem ↓] run_max2 run_min2 eql_rect

def rectCells (l : List RectQ) : List Value := l.flatMap rectV
theorem rectCells_length (l : List RectQ) : (rectCells l).length = l.length * 4 := by
  induction l with
  | nil => rfl
  | cons b l ih => simp [rectCells, rectV] at ih ⊢; omega
theorem rectCells_snoc (l : List RectQ) (q : RectQ) : rectCells (l ++ [q]) = rectCells l ++ rectV q := by simp [rectCells]
theorem rectCells_append (l k : List RectQ) : rectCells (l ++ k) = rectCells l ++ rectCells k := by simp [rectCells]
theorem rectCells_get (l : List RectQ) {i : Nat} (hi : i < l.length) {k : Nat} (hk : k < 4) : (rectCells l)[i * 4 + k]? = (rectV (l.getD i q0Z))[k]? := by
  have hl : (l.take i).length = i := by rw [List.length_take]; omega
  have e : l = l.take i ++ l.getD i q0Z :: l.drop (i + 1) := by
    have : l.getD i q0Z = l[i] := by simp [List.getD_eq_getElem?_getD, hi]
    rw [this, ← List.drop_eq_getElem_cons hi, List.take_append_drop]
  have q : rectCells l = rectCells (l.take i) ++ (rectV (l.getD i q0Z) ++ rectCells (l.drop (i + 1))) := (congrArg rectCells e).trans (by rw [rectCells_append]; rfl)
  rw [q, List.getElem?_append_right (by rw [rectCells_length, hl]; omega), rectCells_length, hl, show i * 4 + k - i * 4 = k by omega, List.getElem?_append_left (by show k < 4; exact hk)]
/-- Rectangles that a slice reads as. -/
def RectsAt (w : World) (a : Option Addr) (l : List RectQ) : Prop := 0 < l.length → ∃ b off, a = some ⟨b, off, none⟩ ∧ b < w.heap.size ∧ ∀ i, i < l.length → w.cell? ⟨b, off + i * 4, none⟩ = some (.int .i64 (l.getD i q0Z).1) ∧ w.cell? ⟨b, off + i * 4 + 1, none⟩ = some (.int .i64 (l.getD i q0Z).2.1) ∧ w.cell? ⟨b, off + i * 4 + 2, none⟩ = some (.int .i64 (l.getD i q0Z).2.2.1) ∧ w.cell? ⟨b, off + i * 4 + 3, none⟩ = some (.int .i64 (l.getD i q0Z).2.2.2)
theorem RectsAt.below {w w1 : World} {a : Option Addr} {l : List RectQ} (h : RectsAt w a l) (hb : Below w.heap.size w w1) : RectsAt w1 a l := fun h0 => by
  obtain ⟨b, off, h1, h2, h4⟩ := h h0
  refine ⟨b, off, h1, Nat.lt_of_lt_of_le h2 hb.size, fun i hi => ?_⟩
  obtain ⟨k0, k1, k2, k3⟩ := h4 i hi
  exact ⟨(hb.cell (p := ⟨b, _, none⟩) h2).trans k0, (hb.cell (p := ⟨b, _, none⟩) h2).trans k1, (hb.cell (p := ⟨b, _, none⟩) h2).trans k2, (hb.cell (p := ⟨b, _, none⟩) h2).trans k3⟩
theorem rectsAt_owned {w : World} {base n c : Nat} {a : Option Addr} {l : List RectQ} (h : w.ownsRow base 40 4 (.slice a n c) n (rectCells l)) (hn : l.length = n) : RectsAt w a l := fun h0 => by
  obtain ⟨a', c', e, _, _, hr⟩ := row_reads h
  cases e
  obtain ⟨g, rfl, hg, hl, hc⟩ := hr (by omega)
  refine ⟨g, 0, rfl, hl, fun i hi => ?_⟩
  rw [Nat.zero_add]
  exact ⟨hc _ _ (rectCells_get l hi (k := 0) (by omega)), hc _ _ (rectCells_get l hi (k := 1) (by omega)), hc _ _ (rectCells_get l hi (k := 2) (by omega)), hc _ _ (rectCells_get l hi (k := 3) (by omega))⟩
theorem infoRc : (Try.prog.info? 40).map (fun i => (i.zero, i.size, i.bytes)) = some (some (.agg #[.int .i64 0, .int .i64 0, .int .i64 0, .int .i64 0]), 4, 32) := by kernel_rfl
/-- Where the loops of Rects stand. -/
def RcsO (w : World) (B : List BandZ) (sv iv : Value) (wr : World) : Prop :=
  ∃ (i : Nat) (l : List RectQ) (al : Option Addr) (ca : Nat), iv = .int .i64 (i : Int) ∧ i ≤ B.length ∧ sv = .slice al l.length ca ∧ Below w.heap.size w wr ∧ wr.ownsRow w.heap.size 40 4 (.slice al l.length ca) l.length (rectCells l) ∧ rectsZ B = l ++ rectsZ (B.drop i)
def RcsI (w : World) (q : Nat) (cs : Array Value) (y0 y1 : Int) (es : List Int) (l0 : List RectQ) (sv iv : Value) (wr : World) : Prop :=
  ∃ (j : Nat) (l : List RectQ) (al : Option Addr) (ca : Nat), iv = .int .i64 ((j : Int) + 1) ∧ j % 2 = 0 ∧ j ≤ es.length ∧ sv = .slice al l.length ca ∧ Below w.heap.size w wr ∧ wr.ownsRow w.heap.size 40 4 (.slice al l.length ca) l.length (rectCells l) ∧ l0 ++ pairsZ y0 y1 es = l ++ pairsZ y0 y1 (es.drop j) ∧ Has wr q cs 115
theorem has_ne_row {w : World} {b base size n : Nat} {cs : Array Value} {T e : TypeId} {v : Value} {xs : List Value} (h : Has w b cs T) (k : w.ownsRow base e size v n xs) (hT : T ≠ e) : v.ownBlock ≠ some b := by
  rcases k.2 with ⟨rfl, _⟩ | ⟨g, cap, cur, rfl, _, hg, _⟩
  · simp [Value.ownBlock]
  · intro e
    simp [Value.ownBlock] at e
    subst e
    unfold Has at h
    rw [hg] at h
    cases h
    exact hT rfl
theorem rectsZ_drop {B : List BandZ} {i : Nat} (h : i < B.length) : rectsZ (B.drop i) = pairsZ (B.getD i b0Z).y0 (B.getD i b0Z).y1 (B.getD i b0Z).es ++ rectsZ (B.drop (i + 1)) := by
  rw [drop_getD h]; rfl
theorem pairsZ_length {y0 y1 : Int} : ∀ {es : List Int} (k : Nat), es.length = 2 * k → (pairsZ y0 y1 es).length = k
  | [], 0, _ => rfl
  | [], k + 1, h => by simp at h
  | [a], k, h => by simp at h; omega
  | a :: c :: l, 0, h => by simp at h
  | a :: c :: l, k + 1, h => by
    rw [pairsZ, List.length_cons, pairsZ_length k (by simp at h; omega)]
theorem pairs_drop {y0 y1 : Int} {es : List Int} {j : Nat} (h : j + 1 < es.length) : pairsZ y0 y1 (es.drop j) = (es.getD j 0, y0, es.getD (j + 1) 0, y1) :: pairsZ y0 y1 (es.drop (j + 2)) := by
  rw [drop_intD (by omega), drop_intD h, pairsZ]
theorem up_drop {m : Int} : ∀ {es : List Int} (j : Nat), Up m es → Up m (es.drop j)
  | es, 0, h => h
  | [], j + 1, h => trivial
  | e :: es, j + 1, h => up_drop (es := es) j (h.2.mono (Int.le_of_lt h.1))
theorem up_two {m : Int} {es : List Int} {j : Nat} (h : Up m es) (hj : j + 1 < es.length) : m < es.getD j 0 ∧ es.getD j 0 < es.getD (j + 1) 0 := by
  have q := up_drop j h
  rw [drop_intD (by omega), drop_intD hj] at q
  exact ⟨q.1, q.2.1⟩
theorem getD_mem {es : List Int} {j : Nat} (hj : j < es.length) : es.getD j 0 ∈ es := by
  have : es.getD j 0 = es[j] := by simp [List.getD_eq_getElem?_getD, hj]
  rw [this]; exact List.getElem_mem _
set_option maxRecDepth 100000 in
set_option maxHeartbeats 8000000 in
theorem rects_own (a : Option Addr) (n c : Nat) (B : List BandZ) (w : World) (hB : RegOk B) (hn : B.length = n) (h : BandsAt w a B) (R : List RectQ) (hR : rectsZ B = R) (hRl : R.length ≤ 1000000000000) :
    Calls Try.prog 26 #[.agg #[.slice a n c]] w fun e w' => ∃ al ca, e = .returned (.slice al R.length ca) ∧ w'.ownsRow w.heap.size 40 4 (.slice al R.length ca) R.length (rectCells R) ∧ Below w.heap.size w w' := by
  obtain ⟨i0, hi0, hz0, hz1, hz2⟩ := info_parts infoRc
  have hl := hB.len
  rw [hn] at hl
  have HB := Lib.hid hB; have HN := Lib.hid hn; have HA := Lib.hid h; have HR := Lib.hid hR; have HRL := Lib.hid hRl
  clear hB hn h hR hRl
  go_enter Try.func26, Try.ntmps26
  go_wp2_with fail
  go_loopw [3, 10] (fun sv iv wr => RcsO w B sv iv wr) (fun _ iv _ => n - (intOf iv).toNat)
  case atStart => unfold RcsO; exact ⟨0, [], none, 0, rfl, Nat.zero_le _, rfl, by (repeat' (first | (with_reducible exact Below.refl _ _) | (with_reducible assumption) | (with_reducible refine below_from_drew ?_) | (with_reducible refine Below.alloc ?_ ?_ _) | (with_reducible refine Below.drew ?_) | (with_reducible refine below_drewN ?_ _) | (with_reducible refine Below.setCell ?_ ?_ _) | (with_reducible refine below_via ?_ (by assumption) ?_) | (with_reducible refine below_ov ?_ ?_ _ _) | go_size)), World.ownsRow_nil _ _ _ _, rfl⟩
  case round =>
    unfold RcsO at hrel
    obtain ⟨i, l, al, ca, rfl, hi, rfl, hbw, hown, heq⟩ := hrel
    rw [HN.out] at hi
    have hzw := hbw.size
    have HBW := Lib.hid hbw; have HO := Lib.hid hown; have HEQ := Lib.hid heq
    clear hbw hown heq
    rcases Nat.lt_or_ge i n with c1 | c1
    · have c2 : (i : Int) < n := by omega
      have c3 : (0 : Int) ≤ (i : Int) := by omega
      obtain ⟨b, off, rfl, hbl, hc⟩ := HA.out (by rw [HN.out]; omega)
      obtain ⟨k0, k1, ea, ec, k2, k3, k4⟩ := hc i (by rw [HN.out]; exact c1)
      have hd := rectsZ_drop (B := B) (i := i) (by rw [HN.out]; exact c1)
      have hmem : B.getD i b0Z ∈ B := by
        have : B.getD i b0Z = B[i]'(by rw [HN.out]; exact c1) := by simp [List.getD_eq_getElem?_getD, HN.out, c1]
        rw [this]; exact List.getElem_mem _
      have hel := HB.out.edges _ hmem
      have hev := HB.out.even _ hmem
      have hup := okB_up HB.out.ok _ hmem
      have hhx := HB.out.hiX _ hmem
      have hhy := HB.out.hiY _ hmem
      obtain ⟨_, hy01, hy0⟩ := okB_ne HB.out.ok _ hmem
      have hq := HEQ.out
      rw [hd, ← List.append_assoc] at hq
      have hob : Old wr b := Nat.lt_of_lt_of_le hbl hzw
      have k0 := (HBW.out.cell (p := ⟨b, off + i * 3, none⟩) hbl).trans k0; have k1 := (HBW.out.cell (p := ⟨b, off + i * 3 + 1, none⟩) hbl).trans k1; have k2 := (HBW.out.cell (p := ⟨b, off + i * 3 + 2, none⟩) hbl).trans k2
      generalize B.getD i b0Z = x at *
      obtain ⟨y0, y1, es⟩ := x
      simp only at k0 k1 k2 k3 k4 hel hev hup hhx hhy hy01 hy0 hq
      have HI := Lib.hid k4; have HQ := Lib.hid hq; have HUP := Lib.hid hup; have HHX := Lib.hid hhx
      obtain ⟨el, hels⟩ : ∃ el, es.length = el := ⟨_, rfl⟩
      have HEL := Lib.hid hels
      rw [hels] at k2 k3 hel hev
      clear hc hd hq k4 hmem hup hhx hels
      have hll : l.length + el / 2 ≤ 1000000000000 := by
        have q := congrArg List.length HQ.out
        rw [HR.out, List.length_append, List.length_append, pairsZ_length (el / 2) (by rw [HEL.out]; omega)] at q
        have := HRL.out
        omega
      obtain ⟨wo, rfl⟩ : ∃ wo : World, wo = wr := ⟨_, rfl⟩
      have HOS := Lib.hid (HO.out.alloc (.cells #[.int .i64 y0, .int .i64 y1, .slice ea el ec] 115))
      go_wp2_with fail
      go_loopw [3, 6] (fun sv iv wr => RcsI w wo.heap.size #[.int .i64 y0, .int .i64 y1, .slice ea el ec] y0 y1 es l sv iv wr) (fun _ iv _ => el + 1 - (intOf iv).toNat)
      case atStart => unfold RcsI; exact ⟨0, l, al, ca, rfl, rfl, Nat.zero_le _, rfl, by have q := HBW.out; (repeat' (first | (with_reducible exact Below.refl _ _) | (with_reducible assumption) | (with_reducible refine below_from_drew ?_) | (with_reducible refine Below.alloc ?_ ?_ _) | (with_reducible refine Below.drew ?_) | (with_reducible refine below_drewN ?_ _) | (with_reducible refine Below.setCell ?_ ?_ _) | (with_reducible refine below_via ?_ (by assumption) ?_) | (with_reducible refine below_ov ?_ ?_ _ _) | go_size)), HOS.out, rfl, has_new rfl⟩
      case round =>
        unfold RcsI at hrel
        obtain ⟨j, l', al', ca', rfl, hj2, hj, rfl, hbw', hown', heq', hx⟩ := hrel
        rw [HEL.out] at hj
        have hzw' := hbw'.size
        have hxl := hx.lt
        have kx := hx.cells
        have HX := Lib.hid hx; have HBW' := Lib.hid hbw'; have HO' := Lib.hid hown'; have HEQ' := Lib.hid heq'
        have hll' : l'.length ≤ 1000000000000 := by
          have q := congrArg List.length heq'
          rw [List.length_append, List.length_append, pairsZ_length (el / 2) (by rw [HEL.out]; omega)] at q
          omega
        clear hbw' hown' heq' hx
        rcases Nat.lt_or_ge (j + 1) el with d1 | d1
        · have d2 : (j : Int) + 1 < el := by omega
          have d3 : (0 : Int) ≤ (j : Int) + 1 := by omega
          have d4 : (j : Int) < el := by omega
          have d5 : (0 : Int) ≤ (j : Int) := by omega
          obtain ⟨be, oe, rfl, hbe, hce⟩ := (HI.out.below HBW'.out) (by rw [HEL.out]; omega)
          have g0 := hce j (by rw [HEL.out]; omega)
          have g1 := hce (j + 1) (by rw [HEL.out]; exact d1)
          have hpd := pairs_drop (y0 := y0) (y1 := y1) (es := es) (j := j) (by rw [HEL.out]; exact d1)
          have hq := HEQ'.out
          rw [hpd] at hq
          have hut := up_two HUP.out (j := j) (by rw [HEL.out]; exact d1)
          have hxm := HHX.out _ (getD_mem (es := es) (j := j + 1) (by rw [HEL.out]; exact d1))
          generalize es.getD j 0 = x0 at *
          generalize es.getD (j + 1) 0 = x1 at *
          have hnf : NF x0 y0 x1 y1 := by unfold NF; omega
          have hnw := new_any x0 y0 x1 y1
          obtain ⟨s0, s1, s2, s3⟩ := r_same hnf
          rw [s0, s1, s2, s3] at hnw
          have HNW := Lib.hid hnw; have HQ' := Lib.hid hq
          clear hce hpd hq hut hxm hnf hnw s0 s1 s2 s3
          go_wp2_with fail
          refine region_ordD [(0, 0), (1, 0), (2, 0), (3, 0), (4, 0), (5, 0), (6, 0), (7, 0), (8, 0), (9, 0), (10, 0), (11, 0), (12, 0), (13, 0), (14, 0), (15, 0), (16, 1), (17, 1), (18, 2), (19, 2)] (by kernel_rfl) (by kernel_rfl) (fun _ _ d _ _ h => by cases d <;> exact h) (fun hS => ?_)
          (refine wpG_read (v := ?_) rfl (.inl ⟨by rfl, fun wx hbx => ?_⟩) ?_; rotate_left; (focus (obtain ⟨cx0, fx0, zx0⟩ := bk hbx (wo.heap.size) (by first | omega | (simp; done) | (simp; omega)); obtain ⟨cx1, fx1, zx1⟩ := bk hbx (be) (by first | omega | (simp; done) | (simp; omega)); go_simp; (try go_bits); (try with_reducible rfl))); try simp only [Act.put, List.setIfInBounds_toArray, List.set_cons_zero, List.set_cons_succ])
          (refine wpG_read (v := ?_) rfl (.inl ⟨by rfl, fun wx hbx => ?_⟩) ?_; rotate_left; (focus (obtain ⟨cx0, fx0, zx0⟩ := bk hbx (wo.heap.size) (by first | omega | (simp; done) | (simp; omega)); obtain ⟨cx1, fx1, zx1⟩ := bk hbx (be) (by first | omega | (simp; done) | (simp; omega)); go_simp; (try go_bits); (try with_reducible rfl))); try simp only [Act.put, List.setIfInBounds_toArray, List.set_cons_zero, List.set_cons_succ])
          (refine wpG_read (v := ?_) rfl (.inl ⟨by rfl, fun wx hbx => ?_⟩) ?_; rotate_left; (focus (obtain ⟨cx0, fx0, zx0⟩ := bk hbx (wo.heap.size) (by first | omega | (simp; done) | (simp; omega)); obtain ⟨cx1, fx1, zx1⟩ := bk hbx (be) (by first | omega | (simp; done) | (simp; omega)); go_simp; (try go_bits); (try with_reducible rfl))); try simp only [Act.put, List.setIfInBounds_toArray, List.set_cons_zero, List.set_cons_succ])
          (refine wpG_read (v := ?_) rfl (.inl ⟨by rfl, fun wx hbx => ?_⟩) ?_; rotate_left; (focus (obtain ⟨cx0, fx0, zx0⟩ := bk hbx (wo.heap.size) (by first | omega | (simp; done) | (simp; omega)); obtain ⟨cx1, fx1, zx1⟩ := bk hbx (be) (by first | omega | (simp; done) | (simp; omega)); go_simp; (try go_bits); (try with_reducible rfl))); try simp only [Act.put, List.setIfInBounds_toArray, List.set_cons_zero, List.set_cons_succ])
          (refine wpG_read (v := ?_) rfl (.inl ⟨by rfl, fun wx hbx => ?_⟩) ?_; rotate_left; (focus (obtain ⟨cx0, fx0, zx0⟩ := bk hbx (wo.heap.size) (by first | omega | (simp; done) | (simp; omega)); obtain ⟨cx1, fx1, zx1⟩ := bk hbx (be) (by first | omega | (simp; done) | (simp; omega)); go_simp; (try go_bits); (try with_reducible rfl))); try simp only [Act.put, List.setIfInBounds_toArray, List.set_cons_zero, List.set_cons_succ])
          (refine wpG_read (v := ?_) rfl (.inl ⟨by rfl, fun wx hbx => ?_⟩) ?_; rotate_left; (focus (obtain ⟨cx0, fx0, zx0⟩ := bk hbx (wo.heap.size) (by first | omega | (simp; done) | (simp; omega)); obtain ⟨cx1, fx1, zx1⟩ := bk hbx (be) (by first | omega | (simp; done) | (simp; omega)); go_simp; (try go_bits); (try with_reducible rfl))); try simp only [Act.put, List.setIfInBounds_toArray, List.set_cons_zero, List.set_cons_succ])
          (refine wpG_read (v := ?_) rfl (.inl ⟨by rfl, fun wx hbx => ?_⟩) ?_; rotate_left; (focus (obtain ⟨cx0, fx0, zx0⟩ := bk hbx (wo.heap.size) (by first | omega | (simp; done) | (simp; omega)); obtain ⟨cx1, fx1, zx1⟩ := bk hbx (be) (by first | omega | (simp; done) | (simp; omega)); go_simp; (try go_bits); (try with_reducible rfl))); try simp only [Act.put, List.setIfInBounds_toArray, List.set_cons_zero, List.set_cons_succ])
          (refine wpG_read (v := ?_) rfl (.inl ⟨by rfl, fun wx hbx => ?_⟩) ?_; rotate_left; (focus (obtain ⟨cx0, fx0, zx0⟩ := bk hbx (wo.heap.size) (by first | omega | (simp; done) | (simp; omega)); obtain ⟨cx1, fx1, zx1⟩ := bk hbx (be) (by first | omega | (simp; done) | (simp; omega)); go_simp; (try go_bits); (try with_reducible rfl))); try simp only [Act.put, List.setIfInBounds_toArray, List.set_cons_zero, List.set_cons_succ])
          (refine wpG_read (v := ?_) rfl (.inl ⟨by rfl, fun wx hbx => ?_⟩) ?_; rotate_left; (focus (obtain ⟨cx0, fx0, zx0⟩ := bk hbx (wo.heap.size) (by first | omega | (simp; done) | (simp; omega)); obtain ⟨cx1, fx1, zx1⟩ := bk hbx (be) (by first | omega | (simp; done) | (simp; omega)); go_simp; (try go_bits); (try with_reducible rfl))); try simp only [Act.put, List.setIfInBounds_toArray, List.set_cons_zero, List.set_cons_succ])
          (refine wpG_read (v := ?_) rfl (.inl ⟨by rfl, fun wx hbx => ?_⟩) ?_; rotate_left; (focus (obtain ⟨cx0, fx0, zx0⟩ := bk hbx (wo.heap.size) (by first | omega | (simp; done) | (simp; omega)); obtain ⟨cx1, fx1, zx1⟩ := bk hbx (be) (by first | omega | (simp; done) | (simp; omega)); go_simp; (try go_bits); (try with_reducible rfl))); try simp only [Act.put, List.setIfInBounds_toArray, List.set_cons_zero, List.set_cons_succ])
          (refine wpG_read (v := ?_) rfl (.inl ⟨by rfl, fun wx hbx => ?_⟩) ?_; rotate_left; (focus (obtain ⟨cx0, fx0, zx0⟩ := bk hbx (wo.heap.size) (by first | omega | (simp; done) | (simp; omega)); obtain ⟨cx1, fx1, zx1⟩ := bk hbx (be) (by first | omega | (simp; done) | (simp; omega)); go_simp; (try go_bits); (try with_reducible rfl))); try simp only [Act.put, List.setIfInBounds_toArray, List.set_cons_zero, List.set_cons_succ])
          (refine wpG_read (v := ?_) rfl (.inl ⟨by rfl, fun wx hbx => ?_⟩) ?_; rotate_left; (focus (obtain ⟨cx0, fx0, zx0⟩ := bk hbx (wo.heap.size) (by first | omega | (simp; done) | (simp; omega)); obtain ⟨cx1, fx1, zx1⟩ := bk hbx (be) (by first | omega | (simp; done) | (simp; omega)); go_simp; (try go_bits); (try with_reducible rfl))); try simp only [Act.put, List.setIfInBounds_toArray, List.set_cons_zero, List.set_cons_succ])
          (refine wpG_read (v := ?_) rfl (.inl ⟨by rfl, fun wx hbx => ?_⟩) ?_; rotate_left; (focus (obtain ⟨cx0, fx0, zx0⟩ := bk hbx (wo.heap.size) (by first | omega | (simp; done) | (simp; omega)); obtain ⟨cx1, fx1, zx1⟩ := bk hbx (be) (by first | omega | (simp; done) | (simp; omega)); go_simp; (try go_bits); (try with_reducible rfl))); try simp only [Act.put, List.setIfInBounds_toArray, List.set_cons_zero, List.set_cons_succ])
          (refine wpG_read (v := ?_) rfl (.inl ⟨by rfl, fun wx hbx => ?_⟩) ?_; rotate_left; (focus (obtain ⟨cx0, fx0, zx0⟩ := bk hbx (wo.heap.size) (by first | omega | (simp; done) | (simp; omega)); obtain ⟨cx1, fx1, zx1⟩ := bk hbx (be) (by first | omega | (simp; done) | (simp; omega)); go_simp; (try go_bits); (try with_reducible rfl))); try simp only [Act.put, List.setIfInBounds_toArray, List.set_cons_zero, List.set_cons_succ])
          (refine wpG_read (v := ?_) rfl (.inl ⟨by rfl, fun wx hbx => ?_⟩) ?_; rotate_left; (focus (obtain ⟨cx0, fx0, zx0⟩ := bk hbx (wo.heap.size) (by first | omega | (simp; done) | (simp; omega)); obtain ⟨cx1, fx1, zx1⟩ := bk hbx (be) (by first | omega | (simp; done) | (simp; omega)); go_simp; (try go_bits); (try with_reducible rfl))); try simp only [Act.put, List.setIfInBounds_toArray, List.set_cons_zero, List.set_cons_succ])
          (refine wpG_read (v := ?_) rfl (.inl ⟨by rfl, fun wx hbx => ?_⟩) ?_; rotate_left; (focus (obtain ⟨cx0, fx0, zx0⟩ := bk hbx (wo.heap.size) (by first | omega | (simp; done) | (simp; omega)); obtain ⟨cx1, fx1, zx1⟩ := bk hbx (be) (by first | omega | (simp; done) | (simp; omega)); go_simp; (try go_bits); (try with_reducible rfl))); try simp only [Act.put, List.setIfInBounds_toArray, List.set_cons_zero, List.set_cons_succ])
          (refine wpG_make rfl (fun K hK => ?_); go_simp; (go_at_call 22; (with_reducible refine (HNW.out _).mono ?_); rintro e u5 ⟨rfl, hb⟩; have hz := hb.size; refine (fun hB => ?_ : Below wr.heap.size wr u5 → _) ?_; rotate_left; (focus ((repeat' (first | (with_reducible exact Below.refl _ _) | (with_reducible assumption) | (with_reducible refine below_from_drew ?_) | (with_reducible refine Below.alloc ?_ ?_ _) | (with_reducible refine Below.drew ?_) | (with_reducible refine below_drewN ?_ _) | (with_reducible refine Below.setCell ?_ ?_ _) | (with_reducible refine below_via ?_ (by assumption) ?_) | (with_reducible refine below_ov ?_ ?_ _ _) | go_size)); done)); (try simp only [World.size_alloc, World.size_setCell, World.size_drew, ov_size] at hz)); (try simp only []); refine hK _ _ ?_ (fun hS2 => ?_); (focus ((repeat' (first | (with_reducible exact Below.refl _ _) | (with_reducible assumption) | (with_reducible refine below_from_drew ?_) | (with_reducible refine Below.alloc ?_ ?_ _) | (with_reducible refine Below.drew ?_) | (with_reducible refine below_drewN ?_ _) | (with_reducible refine Below.setCell ?_ ?_ _) | (with_reducible refine below_via ?_ (by assumption) ?_) | (with_reducible refine below_ov ?_ ?_ _ _) | go_size)); done)); clear hK K hS; have hS := hS2; clear hS2; (try clear hb); try simp only [Act.put, List.setIfInBounds_toArray, List.set_cons_zero, List.set_cons_succ])
          (refine wpG_make rfl (fun K hK => ?_); go_simp; (try simp only []); (try simp only []); refine hK _ _ ?_ (fun hS2 => ?_); (focus ((repeat' (first | (with_reducible exact Below.refl _ _) | (with_reducible assumption) | (with_reducible refine below_from_drew ?_) | (with_reducible refine Below.alloc ?_ ?_ _) | (with_reducible refine Below.drew ?_) | (with_reducible refine below_drewN ?_ _) | (with_reducible refine Below.setCell ?_ ?_ _) | (with_reducible refine below_via ?_ (by assumption) ?_) | (with_reducible refine below_ov ?_ ?_ _ _) | go_size)); done)); clear hK K hS; have hS := hS2; clear hS2; (try clear hb); try simp only [Act.put, List.setIfInBounds_toArray, List.set_cons_zero, List.set_cons_succ])
          have HO5 := Lib.hid (row_below hB HO'.out); have HX5 := Lib.hid (has_below hB HX.out); have HB5 := Lib.hid (below_via HBW'.out hB hzw')
          have hz5 := HB5.out.size
          clear hB hz
          refine wpG_late rfl (fun K hK => ?_)
          refine wp_append_own (P := Try.prog) _ _ _ _ rfl w.heap.size 40 i0 (.agg #[.int .i64 0, .int .i64 0, .int .i64 0, .int .i64 0]) 4 32 Try.underlying57 hi0 hz0 hz1 hz2 rfl (by decide) _ _ _ rfl (HO5.out.alloc _) ⟨u5.heap.size, 0, none⟩ 1 1 [.int .i64 x0, .int .i64 y0, .int .i64 x1, .int .i64 y1] rfl rfl (newi_at (by simp)) (one_of rfl) (by unfold maxLen; omega) (by omega) (by simp; omega) ?_
          intro v7 w7 hown7 hgrow7 hnil7
          refine hK _ _ ?_
          clear hnil7 hK K hS
          try simp only [Act.put, List.setIfInBounds_toArray, List.set_cons_zero, List.set_cons_succ]
          refine wpG_late rfl (fun K hK => ?_)
          go_simp
          refine hK _ _ ?_
          clear hK K
          try simp only [Act.put, List.setIfInBounds_toArray, List.set_cons_zero, List.set_cons_succ]
          refine wpG_nil ?_
          have hB7 : Below w.heap.size w w7 := Below.grown (by have q := HB5.out; (repeat' (first | (with_reducible exact Below.refl _ _) | (with_reducible assumption) | (with_reducible refine below_from_drew ?_) | (with_reducible refine Below.alloc ?_ ?_ _) | (with_reducible refine Below.drew ?_) | (with_reducible refine below_drewN ?_ _) | (with_reducible refine Below.setCell ?_ ?_ _) | (with_reducible refine below_via ?_ (by assumption) ?_) | (with_reducible refine below_ov ?_ ?_ _ _) | go_size))) hgrow7 (by simp; omega) (fun bb h => by have := row_block HO5.out bb h; omega)
          have hX7 := has_grown hgrow7 (has_alloc HX5.out) (has_ne_row HX5.out HO5.out (by decide))
          obtain ⟨al7, ca7, rfl, _, _⟩ := row_reads hown7
          have HB7 := Lib.hid hB7; have HO7 := Lib.hid hown7; have HX7 := Lib.hid hX7
          clear hgrow7 hB7 hown7 hX7
          go_wp2_with fail
          go_roundw
          case rel => unfold RcsI; exact ⟨j + 2, l' ++ [(x0, y0, x1, y1)], al7, ca7, by go_num, by omega, by rw [HEL.out]; omega, by simp, HB7.out, by rw [List.length_append, rectCells_snoc]; exact HO7.out, by rw [HQ'.out, List.append_assoc]; rfl, HX7.out⟩
          case measure => simp [intOf]; omega
        · have d2 : decide ((j : Int) + 1 < el) = false := by simp; omega
          obtain rfl : j = el := by omega
          have hfin : rectsZ B = l' ++ rectsZ (B.drop (i + 1)) := by
            rw [HQ.out, HEQ'.out, List.drop_of_length_le (by rw [HEL.out]; exact Nat.le_refl _)]
            simp [pairsZ]
          have HF := Lib.hid hfin
          clear hfin
          go_wp2_with fail
          go_roundw
          case rel => unfold RcsO; exact ⟨i + 1, l', al', ca', by go_num, by rw [HN.out]; omega, rfl, HBW'.out, HO'.out, HF.out⟩
          case measure => simp [intOf]; omega
    · obtain rfl : i = n := by omega
      have c2 : decide ((i : Int) < i) = false := by simp
      have hfin : l = R := by
        rw [← HR.out, HEQ.out, List.drop_of_length_le (by rw [HN.out]; exact Nat.le_refl _)]
        simp [rectsZ]
      subst hfin
      go_wp2_with fail
      go_ret
      exact ⟨al, ca, rfl, HO.out, HBW.out⟩
theorem rects_any (a : Option Addr) (n c : Nat) (B : List BandZ) (w : World) (hB : RegOk B) (hn : B.length = n) (h : BandsAt w a B) (R : List RectQ) (hR : rectsZ B = R) (hRl : R.length ≤ 1000000000000) :
    Calls Try.prog 26 #[.agg #[.slice a n c]] w fun e w' => ∃ al ca, e = .returned (.slice al R.length ca) ∧ RectsAt w' al R ∧ Below w.heap.size w w' :=
  (rects_own a n c B w hB hn h R hR hRl).mono fun e w' ⟨al, ca, he, ho, hb⟩ => ⟨al, ca, he, rectsAt_owned ho rfl, hb⟩
end Go.Proofs.Ytkpamofamcndnaa
