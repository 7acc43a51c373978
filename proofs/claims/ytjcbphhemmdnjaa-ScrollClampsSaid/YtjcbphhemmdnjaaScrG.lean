/- law23 (scroll): scroll.Most by contract. -/
import Derived.Test.YtjcbphhemmdnjaaScrF
import Derived.Test.YtjcbphhemmdnjaaTry
namespace Go.Proofs.Ytjcbphhemmdnjaa
open Go Go.RowKit
set_option linter.unusedSimpArgs false
set_option linter.unusedVariables false
-- below_from_drew
attribute [local go_sem] ov_cell_same ov_cell_other ov_frozen_same ov_frozen_other ov_size ov_setCell_same ov_setCell_other cell_alloc_old frozen_alloc_old setCell_alloc_old old_alloc old_ov old_drew old_drewN old_setCell
attribute [local go_sem ↓] run_max2 run_min2
attribute [local go_sem] look_lay23 look_box23 look_box23_ok lay_text lay_style sty_words word_over mapOk_alloc mapOf_alloc mapOk_drew mapOf_drew mapOk_drewN mapOf_drewN mapOk_ov mapOf_ov
attribute [local go_sem ↓] bige_xl bige_xs
attribute [local go_sem] bige_l bige_s blkCells_ov_same blkCells_ov_other blkCells_new blkCells_old blkCells_drew blkCells_drewN putBlk_ov_same putBlk_ov_other putBlk_new putBlk_old putBlk_drew putBlk_drewN putBlk_size allOne_nil allOne_int allOne_bool allOne_slice allOne_pointer allOne_map allOne_string
attribute [local go_sem] bxV_len bxV_one bxV_size bxZ_len bxZ_one
theorem put_two23 {w : World} {b : Nat} {k : Int} {v : Value} (h : MapOk w b) : (Instr.mapUpdate 35 (.map (some b)) (.int .i64 k) v).run Try.prog w = .ok () (putM w b k v) := run_putM Try.underlying35 Try.underlying3 k v h
attribute [local go_sem] put_two23
theorem try_done23 (F : FuncId) (cap : Array Value) (w : World) (R : World → Prop) (hF : ∀ W, (callFunc F cap).run Try.prog W = .ok (.enter F cap) W) (h : Calls Try.prog F cap (w.alloc (.cells #[.int .i64 0] 36)) fun e w' => e = .returned (.tuple #[]) ∧ R w') (hR : ∀ w', R w' → Has w' w.heap.size #[.int .i64 0] 36) :
    Calls Try.prog 34 #[.func (Fn.func F) #[] cap] w fun e w' => e = .returned (.int .i64 0) ∧ R w' := by
  refine (try_ok F cap w R hF h hR).mono ?_
  rintro e w' ⟨rfl, w1, hr, rfl⟩
  have := ov_self (hR _ hr)
  refine ⟨rfl, ?_⟩
  rw [← this, ov_setCell_same]
  simpa [this] using hr
theorem cell_notMap23 {w : World} {b g o : Nat} {v : Value} (h : MapOk w b) (hc : w.cell? ⟨g, o, none⟩ = some v) : g ≠ b := fun e => by
  subst e
  obtain ⟨es, c, k, _⟩ := h
  simp [World.cell?, k] at hc
def mostV (l : List N23) (N n : Nat) : Value := .agg #[.int .i64 (mostX l N n), .int .i64 (mostY l N n)]
def mst23 (l : List N23) (n : Nat) : Bool := there23 l n && scr23 l n
/-- The map of what scrolls. -/
def outS (l : List N23) (N : Nat) : Int → Option Value := fun x => if 0 ≤ x ∧ x < N ∧ mst23 l x.toNat = true then some (mostV l N x.toNat) else none
def outK (l : List N23) (N : Nat) (K : List Int) (j : Nat) : Int → Option Value := fun x => if x ∈ K.take j ∧ mst23 l x.toNat = true then some (mostV l N x.toNat) else none
theorem outK_zero (l : List N23) (N : Nat) (K : List Int) (x : Int) : outK l N K 0 x = none := by unfold outK; rw [if_neg (by simp)]
theorem outK_next (l : List N23) (N : Nat) (K : List Int) (j n : Nat) (h : j < K.length) (hk : K.getD j 0 = n) (x : Int) : outK l N K (j + 1) x = if mst23 l n = true then (if x = (n : Int) then some (mostV l N n) else outK l N K j x) else outK l N K j x := by
  have e : K[j]? = some (n : Int) := by
    rw [List.getElem?_eq_getElem h]
    rw [List.getD_eq_getElem?_getD, List.getElem?_eq_getElem h] at hk
    exact congrArg some hk
  unfold outK
  rw [List.take_add_one, e, Option.toList_some]
  by_cases c : x = (n : Int)
  · subst c
    simp only [List.mem_append, List.mem_singleton, or_true, true_and, Int.toNat_natCast, if_true]
    by_cases m : mst23 l n = true
    · simp [m]
    · simp [m]
  · simp only [List.mem_append, List.mem_singleton, c, or_false, if_false]
    by_cases m : mst23 l n = true
    · rw [if_pos m]
    · rw [if_neg m]
theorem outK_all (l : List N23) (N : Nat) (K : List Int) (hK : ∀ x : Int, x ∈ K ↔ 0 ≤ x ∧ x < N) (x : Int) : outK l N K K.length x = outS l N x := by
  unfold outK outS
  rw [List.take_length]
  by_cases c : 0 ≤ x ∧ x < N
  · by_cases m : mst23 l x.toNat = true
    · rw [if_pos ⟨(hK x).2 c, m⟩, if_pos ⟨c.1, c.2, m⟩]
    · rw [if_neg (fun q => m q.2), if_neg (fun q => m q.2.2)]
  · rw [if_neg (fun q => c ((hK x).1 q.1)), if_neg (fun q => c ⟨q.1, q.2.1⟩)]
set_option maxRecDepth 100000 in
set_option maxHeartbeats 4000000 in
theorem mostin_any (l : List N23) (N pt bm bn bx : Nat) (g : Nat → Nat × Nat) (base : Nat → Prop) (R : Rows) (w V : World) (p3 p5 p8 p9 bo : Nat) (hW : In23 w l N pt bm bn bx g base R) (hV : Below w.heap.size w V) (h3 : Has V p3 #[.pointer (some ⟨pt, 0, none⟩)] 24) (h5 : Has V p5 #[.map (some bx)] 26) (h8 : Has V p8 #[.pointer (some ⟨pt, 0, none⟩), .map (some bn), .map (some bx)] 112) (h9 : Has V p9 #[.map (some bo)] 35) (hbo : w.heap.size ≤ bo) (hok : MapOk V bo) (hl : mapOf V bo = []) :
    Calls Try.prog 35 #[.pointer (some ⟨p3, 0, none⟩), .pointer (some ⟨p5, 0, none⟩), .pointer (some ⟨p8, 0, none⟩), .pointer (some ⟨p9, 0, none⟩)] V fun e w' => e = .returned (.tuple #[]) ∧ ButS (fun b => b = bo) V.heap.size V w' ∧ MapOk w' bo ∧ ∀ x, mlook (mapOf w' bo) x = outS l N x := by
  have HW := Lib.hid hW; have HV := Lib.hid hV
  have c3 := h3.cells; have l3 := h3.lt; have o3 : Old V p3 := l3
  have HIV := Lib.hid (hW.below hV)
  have hRl := hW.told.len
  have hN := hW.hn
  have HT := Lib.hid (fun v (hv : Below V.heap.size V v) => torder_any pt bm base R N v (HIV.out.tree.below hv) (by omega))
  have HK := Lib.hid (fun x => hW.told.mem x)
  have hKl := nums_length R
  obtain ⟨K, hK⟩ : ∃ K, nums R = K := ⟨_, rfl⟩
  rw [hK] at HT HK hKl
  rw [← hKl] at HT
  have hK14 : K.length ≤ 14 := by omega
  clear hKl
  have n3 : ¬ p3 = bo := fun e => has_notMap h3 (e ▸ hok)
  have n5 : ¬ p5 = bo := fun e => has_notMap h5 (e ▸ hok)
  have n8 : ¬ p8 = bo := fun e => has_notMap h8 (e ▸ hok)
  have n9 : ¬ p9 = bo := fun e => has_notMap h9 (e ▸ hok)
  have H3 := Lib.hid h3; have H5 := Lib.hid h5; have H8 := Lib.hid h8; have H9 := Lib.hid h9; have HO := Lib.hid hok; have HL := Lib.hid hl
  have lbo := hok.lt
  clear hW hV h3 h5 h8 h9 hok hl hK hRl
  go_enter Try.func35, Try.ntmps35
  go_wp2_with ((go_at_call 23; (with_reducible refine (HT.out _ (by (repeat' (first | (with_reducible exact Below.refl _ _) | (with_reducible assumption) | (with_reducible refine below_from_drew ?_) | (with_reducible refine Below.alloc ?_ ?_ _) | (with_reducible refine Below.drew ?_) | (with_reducible refine below_drewN ?_ _) | (with_reducible refine Below.setCell ?_ ?_ _) | (with_reducible refine below_via ?_ (by assumption) ?_) | (with_reducible refine below_ov ?_ ?_ _ _) | go_size)))).mono ?_); rintro e u ⟨ka, kc, rfl, hI, hb⟩; have hz := hb.size; refine (fun hB => ?_ : Below V.heap.size V u → _) ?_; rotate_left; (focus ((repeat' (first | (with_reducible exact Below.refl _ _) | (with_reducible assumption) | (with_reducible refine below_from_drew ?_) | (with_reducible refine Below.alloc ?_ ?_ _) | (with_reducible refine Below.drew ?_) | (with_reducible refine below_drewN ?_ _) | (with_reducible refine Below.setCell ?_ ?_ _) | (with_reducible refine below_via ?_ (by assumption) ?_) | (with_reducible refine below_ov ?_ ?_ _ _) | go_size)); done)); (try simp only [World.size_alloc, World.size_setCell, World.size_drew, ov_size] at hz)))
  go_loopw [11] (fun t wr => ∃ j : Nat, t = .int .i64 j ∧ j ≤ K.length ∧ IntsAt wr ka K ∧ ButS (fun b => b = bo) V.heap.size V wr ∧ MapOk wr bo ∧ ∀ x, mlook (mapOf wr bo) x = outK l N K j x) (fun t _ => K.length - (intOf t).toNat)
  case atStart => exact ⟨0, rfl, Nat.zero_le _, hI, ButS.of hB, mapOk_eq (hB.block _ lbo) HO.out, fun x => by rw [mapOf_eq (hB.block _ lbo), HL.out, outK_zero]; rfl⟩
  case round =>
    obtain ⟨j, rfl, hj, hIr, hbr, hor, hlr⟩ := hrel
    clear hI hB hb c3 l3 o3 hz
    by_cases c : j < K.length
    · have ci : (j : Int) < (K.length : Int) := by omega
      have cj : (0 : Int) ≤ j := by omega
      obtain ⟨ab, ao, rfl, la, cK⟩ := hIr (by omega)
      have ca := cK j c
      have oa : Old wr ab := la
      have hab : ab ≠ bo := cell_notMap23 hor ca
      clear cK
      obtain ⟨n, hn0, hnN⟩ : ∃ n : Nat, K.getD j 0 = n ∧ n < N := by
        have hm : K.getD j 0 ∈ K := by rw [List.getD_eq_getElem?_getD, List.getElem?_eq_getElem c]; exact List.getElem_mem c
        obtain ⟨q1, q2⟩ := (HK.out _).1 hm
        exact ⟨(K.getD j 0).toNat, by omega, by omega⟩
      rw [hn0] at ca
      have HNX := Lib.hid (outK_next l N K j n c hn0)
      have hbw : Below w.heap.size w wr := HV.out.trans ((hbr.less HV.out.size).below (fun k hk e => by have : k = bo := e; omega))
      have hIN := HW.out.below hbw
      have h5 := hbr.has H5.out H5.out.lt n5
      have h8 := hbr.has H8.out H8.out.lt n8
      have h9 := hbr.has H9.out H9.out.lt n9
      have e5 := h5.cells; have l5 := h5.lt; have o5 : Old wr p5 := l5
      have okx := hIN.okx
      have ox : Old wr bx := okx.lt
      have hlx := hIN.lx n
      have HI := Lib.hid hIr; have HB := Lib.hid hbr; have HO2 := Lib.hid hor; have HL2 := Lib.hid hlr; have H8r := Lib.hid h8; have H9r := Lib.hid h9; have HBW := Lib.hid hbw
      clear hIr hbr hor hlr h5 h8 h9 hIN hn0 hbw
      rcases ht : there23 l n with _ | _
      · have hms : mst23 l n = false := by unfold mst23; rw [ht]; rfl
        rw [m23b_out ht] at hlx
        have g1 : mgetD (mapOf wr bx) n boxZ23 = .agg zb23.toArray := mgetD_none (z := boxZ23) hlx
        have g2 := mhas_none hlx
        clear hlx
        go_upto_region 4 with fail
        refine name_w (f := Code.wp _ _ _ _) (fun X hX => ?_)
        have hXb : Below wr.heap.size wr X := by rw [hX]; (repeat' (first | (with_reducible exact Below.refl _ _) | (with_reducible assumption) | (with_reducible refine below_from_drew ?_) | (with_reducible refine Below.alloc ?_ ?_ _) | (with_reducible refine Below.drew ?_) | (with_reducible refine below_drewN ?_ _) | (with_reducible refine Below.setCell ?_ ?_ _) | (with_reducible refine below_via ?_ (by assumption) ?_) | (with_reducible refine below_ov ?_ ?_ _ _) | go_size))
        have HXB := Lib.hid hXb
        clear hX hXb g1 g2 okx ox e5 l5 o5 ca oa la
        go_wp2_with fail
        exact ⟨⟨j + 1, by push_cast; rfl, by omega, HI.out.below HXB.out, HB.out.trans ((ButS.of HXB.out).less HB.out.size), mapOk_eq (HXB.out.block _ HO2.out.lt) HO2.out, fun x => by rw [mapOf_eq (HXB.out.block _ HO2.out.lt), HL2.out, HNX.out, hms]; simp⟩, by simp only [intOf]; omega⟩
      · rw [m23b_in hnN ht] at hlx
        have g1 := mgetD_some (z := boxZ23) hlx
        have g2 := mhas_some hlx
        clear hlx
        go_upto_region 4 with fail
        refine name_w (f := Code.wp _ _ _ _) (fun X hX => ?_)
        have hXb : Below wr.heap.size wr X := by rw [hX]; (repeat' (first | (with_reducible exact Below.refl _ _) | (with_reducible assumption) | (with_reducible refine below_from_drew ?_) | (with_reducible refine Below.alloc ?_ ?_ _) | (with_reducible refine Below.drew ?_) | (with_reducible refine below_drewN ?_ _) | (with_reducible refine Below.setCell ?_ ?_ _) | (with_reducible refine below_via ?_ (by assumption) ?_) | (with_reducible refine below_ov ?_ ?_ _ _) | go_size))
        have HXB := Lib.hid hXb
        have h8 := has_below hXb H8r.out
        have e8 := h8.cells; have l8 := h8.lt; have o8 : Old X p8 := l8
        have HOV := Lib.hid (fun Y (hY : Below X.heap.size X Y) => over_any l N pt bm bn bx n g base R Y hnN (((HW.out.below HBW.out).below HXB.out).below hY))
        have H8X := Lib.hid h8
        clear hX hXb g1 g2 okx ox e5 l5 o5 ca oa la h8
        go_upto_if 27 with ((go_at_call 36; (with_reducible refine (HOV.out _ (by (repeat' (first | (with_reducible exact Below.refl _ _) | (with_reducible assumption) | (with_reducible refine below_from_drew ?_) | (with_reducible refine Below.alloc ?_ ?_ _) | (with_reducible refine Below.drew ?_) | (with_reducible refine below_drewN ?_ _) | (with_reducible refine Below.setCell ?_ ?_ _) | (with_reducible refine below_via ?_ (by assumption) ?_) | (with_reducible refine below_ov ?_ ?_ _ _) | go_size)))).mono ?_); rintro e v5 ⟨rfl, hb⟩; have hz := hb.size; refine (fun hB => ?_ : Below X.heap.size X v5 → _) ?_; rotate_left; (focus ((repeat' (first | (with_reducible exact Below.refl _ _) | (with_reducible assumption) | (with_reducible refine below_from_drew ?_) | (with_reducible refine Below.alloc ?_ ?_ _) | (with_reducible refine Below.drew ?_) | (with_reducible refine below_drewN ?_ _) | (with_reducible refine Below.setCell ?_ ?_ _) | (with_reducible refine below_via ?_ (by assumption) ?_) | (with_reducible refine below_ov ?_ ?_ _ _) | go_size)); done)); (try simp only [World.size_alloc, World.size_setCell, World.size_drew, ov_size] at hz)))
        have hv5 : Below wr.heap.size wr v5 := HXB.out.trans (hB.mono HXB.out.size)
        have HV5 := Lib.hid hv5
        have h8 := has_below hv5 H8r.out
        have h9 := has_below hv5 H9r.out
        have e8 := h8.cells; have l8 := h8.lt; have o8 : Old v5 p8 := l8
        have e9 := h9.cells; have l9 := h9.lt; have o9 : Old v5 p9 := l9
        clear hv5 hB hb hz HXB H8X HOV h8 h9
        rcases hm : scr23 l n with _ | _
        · have hms : mst23 l n = false := by unfold mst23; rw [ht, hm]; rfl
          have hov : ¬ ovf23 l n = 2 := by
            unfold ovf23
            unfold scr23 at hm
            intro e
            cases hx : tx23 l n with
            | true => rw [hx] at e; simp at e
            | false => rw [hx] at e hm; simp at e hm; omega
          go_wp2_with fail
          exact ⟨⟨j + 1, by push_cast; rfl, by omega, HI.out.below HV5.out, HB.out.trans ((ButS.of HV5.out).less HB.out.size), mapOk_eq (HV5.out.block _ HO2.out.lt) HO2.out, fun x => by rw [mapOf_eq (HV5.out.block _ HO2.out.lt), HL2.out, HNX.out, hms]; simp⟩, by simp only [intOf]; omega⟩
        · have hms : mst23 l n = true := by unfold mst23; rw [ht, hm]; rfl
          have hx : tx23 l n = false := by unfold scr23 at hm; cases q : tx23 l n with
            | true => rw [q] at hm; simp at hm
            | false => rfl
          have hov : ovf23 l n = 2 := by
            unfold ovf23
            unfold scr23 at hm
            rw [hx] at hm ⊢
            simp at hm ⊢; omega
          have HMO := Lib.hid (fun Y (hY : Below v5.heap.size v5 Y) => most_any l N pt bm bn bx n g base R Y hnN ht hx (((HW.out.below HBW.out).below HV5.out).below hY))
          rw [hov]
          clear hov
          go_upto_region 5 with fail
          refine region_ord [(0, 0), (1, 0), (2, 0), (3, 0), (4, 1), (5, 2)] (by kernel_rfl) (by kernel_rfl) (fun _ _ d _ _ h => by cases d <;> exact h) (fun hS => ?_)
          (refine wpG_read (v := ?_) rfl (.inl ⟨by rfl, fun wx hbx => ?_⟩) ?_; rotate_left; (focus (obtain ⟨cx0, fx0, zx0⟩ := bk hbx (p8) (by first | omega | (simp; done) | (simp; omega)); have bx0 := bkB hbx (p8) (by first | omega | (simp; done) | (simp; omega)); obtain ⟨cx1, fx1, zx1⟩ := bk hbx (p9) (by first | omega | (simp; done) | (simp; omega)); have bx1 := bkB hbx (p9) (by first | omega | (simp; done) | (simp; omega)); go_simp; (try go_bits); (try with_reducible rfl))); try simp only [Act.put, List.setIfInBounds_toArray, List.set_cons_zero, List.set_cons_succ])
          (refine wpG_read (v := ?_) rfl (.inl ⟨by rfl, fun wx hbx => ?_⟩) ?_; rotate_left; (focus (obtain ⟨cx0, fx0, zx0⟩ := bk hbx (p8) (by first | omega | (simp; done) | (simp; omega)); have bx0 := bkB hbx (p8) (by first | omega | (simp; done) | (simp; omega)); obtain ⟨cx1, fx1, zx1⟩ := bk hbx (p9) (by first | omega | (simp; done) | (simp; omega)); have bx1 := bkB hbx (p9) (by first | omega | (simp; done) | (simp; omega)); go_simp; (try go_bits); (try with_reducible rfl))); try simp only [Act.put, List.setIfInBounds_toArray, List.set_cons_zero, List.set_cons_succ])
          (refine wpG_read (v := ?_) rfl (.inl ⟨by rfl, fun wx hbx => ?_⟩) ?_; rotate_left; (focus (obtain ⟨cx0, fx0, zx0⟩ := bk hbx (p8) (by first | omega | (simp; done) | (simp; omega)); have bx0 := bkB hbx (p8) (by first | omega | (simp; done) | (simp; omega)); obtain ⟨cx1, fx1, zx1⟩ := bk hbx (p9) (by first | omega | (simp; done) | (simp; omega)); have bx1 := bkB hbx (p9) (by first | omega | (simp; done) | (simp; omega)); go_simp; (try go_bits); (try with_reducible rfl))); try simp only [Act.put, List.setIfInBounds_toArray, List.set_cons_zero, List.set_cons_succ])
          (refine wpG_read (v := ?_) rfl (.inl ⟨by rfl, fun wx hbx => ?_⟩) ?_; rotate_left; (focus (obtain ⟨cx0, fx0, zx0⟩ := bk hbx (p8) (by first | omega | (simp; done) | (simp; omega)); have bx0 := bkB hbx (p8) (by first | omega | (simp; done) | (simp; omega)); obtain ⟨cx1, fx1, zx1⟩ := bk hbx (p9) (by first | omega | (simp; done) | (simp; omega)); have bx1 := bkB hbx (p9) (by first | omega | (simp; done) | (simp; omega)); go_simp; (try go_bits); (try with_reducible rfl))); try simp only [Act.put, List.setIfInBounds_toArray, List.set_cons_zero, List.set_cons_succ])
          (refine wpG_make rfl (fun K hK => ?_); go_simp; (go_at_call 37; (with_reducible refine (HMO.out _ (by (repeat' (first | (with_reducible exact Below.refl _ _) | (with_reducible assumption) | (with_reducible refine below_from_drew ?_) | (with_reducible refine Below.alloc ?_ ?_ _) | (with_reducible refine Below.drew ?_) | (with_reducible refine below_drewN ?_ _) | (with_reducible refine Below.setCell ?_ ?_ _) | (with_reducible refine below_via ?_ (by assumption) ?_) | (with_reducible refine below_ov ?_ ?_ _ _) | go_size)))).mono ?_); rintro e v6 ⟨rfl, hb⟩; have hz := hb.size; refine (fun hB => ?_ : Below v5.heap.size v5 v6 → _) ?_; rotate_left; (focus ((repeat' (first | (with_reducible exact Below.refl _ _) | (with_reducible assumption) | (with_reducible refine below_from_drew ?_) | (with_reducible refine Below.alloc ?_ ?_ _) | (with_reducible refine Below.drew ?_) | (with_reducible refine below_drewN ?_ _) | (with_reducible refine Below.setCell ?_ ?_ _) | (with_reducible refine below_via ?_ (by assumption) ?_) | (with_reducible refine below_ov ?_ ?_ _ _) | go_size)); done)); (try simp only [World.size_alloc, World.size_setCell, World.size_drew, ov_size] at hz)); (try simp only []); refine hK _ _ ?_ (fun hS2 => ?_); (focus ((repeat' (first | (with_reducible exact Below.refl _ _) | (with_reducible assumption) | (with_reducible refine below_from_drew ?_) | (with_reducible refine Below.alloc ?_ ?_ _) | (with_reducible refine Below.drew ?_) | (with_reducible refine below_drewN ?_ _) | (with_reducible refine Below.setCell ?_ ?_ _) | (with_reducible refine below_via ?_ (by assumption) ?_) | (with_reducible refine below_ov ?_ ?_ _ _) | go_size)); done)); clear hK K hS; have hS := hS2; clear hS2; (try clear hb); try simp only [Act.put, List.setIfInBounds_toArray, List.set_cons_zero, List.set_cons_succ])
          have h56 : Below v5.heap.size v5 v6 := (Below.refl _ v5).drew.trans hS
          have ok6 : MapOk v6 bo := mapOk_eq ((HV5.out.trans (h56.mono HV5.out.size)).block _ HO2.out.lt) HO2.out
          (refine wpG_late rfl (fun K hK => ?_); go_simp; refine hK _ _ ?_; clear hK K; try simp only [Act.put, List.setIfInBounds_toArray, List.set_cons_zero, List.set_cons_succ])
          refine wpG_nil ?_
          refine name_w (f := Exit.inBlock _ _ Exit.normal _) (fun Y hY => ?_)
          have hYl : MapOk Y bo ∧ ∀ x, mlook (mapOf Y bo) x = outK l N K (j + 1) x := by
            rw [hY]
            refine ⟨mapOk_put_same ok6, fun x => ?_⟩
            rw [mapOf_put_same ok6, mlook_put, mapOf_eq ((HV5.out.trans (h56.mono HV5.out.size)).block _ HO2.out.lt), HL2.out, HNX.out, hms, if_pos rfl]
            rfl
          have hYw : ButS (fun b => b = bo) wr.heap.size wr Y := by
            rw [hY]
            exact (ButS.of (HV5.out.trans (h56.mono HV5.out.size))).trans ((ButS.put (S := fun b => b = bo) (ButS.refl _ _ v6) (.inr rfl)).less (Nat.le_trans HV5.out.size h56.size))
          have hYB : ButS (fun b => b = bo) V.heap.size V Y := HB.out.trans (hYw.less HB.out.size)
          have hYI : IntsAt Y (some ⟨ab, ao, none⟩) K := HI.out.to hYw.size (fun b off e hb => hYw.block b hb (by cases e; exact hab))
          clear hY
          go_wp2_with fail
          exact ⟨⟨j + 1, by push_cast; rfl, by omega, hYI, hYB, hYl.1, hYl.2⟩, by simp only [intOf]; omega⟩
    · have ci : ¬ (j : Int) < (K.length : Int) := by omega
      obtain rfl : j = K.length := by omega
      go_wp2_with fail
      refine bodyPost_end (results_none rfl _ _ _) rfl ?_
      exact ⟨rfl, hbr, hor, fun x => by rw [hlr]; exact outK_all l N K HK.out x⟩
set_option maxRecDepth 100000 in
set_option maxHeartbeats 2000000 in
theorem smost_any (l : List N23) (N pt bm bn bx : Nat) (g : Nat → Nat × Nat) (base : Nat → Prop) (R : Rows) (w : World) (h : In23 w l N pt bm bn bx g base R) :
    Calls Try.prog 12 #[.pointer (some ⟨pt, 0, none⟩), .map (some bn), .map (some bx)] w fun e w' => ∃ bo, e = .returned (.tuple #[.map (some bo), .int .i64 0]) ∧ w.heap.size ≤ bo ∧ MapOk w' bo ∧ (∀ x, mlook (mapOf w' bo) x = outS l N x) ∧ Below w.heap.size w w' := by
  have HI := Lib.hid h
  clear h
  have hmm := @run_makeMap Try.prog
  go_enter Try.func12, Try.ntmps12
  go_upto_region 5 with fail
  refine name_w (f := Code.wp _ _ _ _) (fun X hX => ?_)
  have hXs : X.heap.size = w.heap.size + 5 := by rw [hX]; simp
  have hXb : Below w.heap.size w X := by rw [hX]; exact (((((Below.refl _ _).alloc (Nat.le_refl _) _).alloc (by simp) _).alloc (by simp; omega) _).alloc (by simp; omega) _).alloc (by simp; omega) _
  have hXo : MapOk X (w.heap.size + 1 + 1 + 1) := by rw [hX]; exact mapOk_alloc (mapOk_new (by simp))
  have hXl : mapOf X (w.heap.size + 1 + 1 + 1) = [] := by
    rw [hX, mapOf_alloc (show Old _ _ by show w.heap.size + 1 + 1 + 1 < _; simp), mapOf_new (by simp)]
  have hX3 : Has X w.heap.size #[.pointer (some ⟨pt, 0, none⟩)] 24 := by rw [hX]; exact has_alloc (has_alloc (has_alloc (has_alloc (has_new rfl))))
  have hX5 : Has X (w.heap.size + 1) #[.map (some bx)] 26 := by rw [hX]; exact has_alloc (has_alloc (has_alloc (has_new (by simp))))
  have hX8 : Has X (w.heap.size + 1 + 1) #[.pointer (some ⟨pt, 0, none⟩), .map (some bn), .map (some bx)] 112 := by rw [hX]; exact has_alloc (has_alloc (has_new (by simp)))
  have hX9 : Has X (w.heap.size + 1 + 1 + 1 + 1) #[.map (some (w.heap.size + 1 + 1 + 1))] 35 := by rw [hX]; exact has_new (by simp)
  have HXB := Lib.hid hXb; have HXO := Lib.hid hXo; have HXL := Lib.hid hXl; have HX3 := Lib.hid hX3; have HX5 := Lib.hid hX5; have HX8 := Lib.hid hX8; have HX9 := Lib.hid hX9
  clear hXb hXo hXl hX3 hX5 hX8 hX9 hX hmm
  go_wp2_with ((go_at_call 34); (with_reducible refine (try_done23 35 _ X (fun w' => ButS (fun b => b = w.heap.size + 1 + 1 + 1) X.heap.size X w' ∧ Has w' X.heap.size #[.int .i64 0] 36 ∧ MapOk w' (w.heap.size + 1 + 1 + 1) ∧ ∀ x, mlook (mapOf w' (w.heap.size + 1 + 1 + 1)) x = outS l N x) (fun W => rfl) ?_ (fun w' h => h.2.1)).mono ?_); rotate_left; rintro e w2 ⟨rfl, hbw, hh, hok2, hlk2⟩; have k9 := (hbw.has HX9.out HX9.out.lt (fun e => by have : w.heap.size + 1 + 1 + 1 + 1 = w.heap.size + 1 + 1 + 1 := e; omega)).cells; have l9 := (hbw.has HX9.out HX9.out.lt (fun e => by have : w.heap.size + 1 + 1 + 1 + 1 = w.heap.size + 1 + 1 + 1 := e; omega)).lt; have o9 : Old w2 (w.heap.size + 1 + 1 + 1 + 1) := l9; have HBW := Lib.hid hbw; have HOK2 := Lib.hid hok2; have HLK2 := Lib.hid hlk2; clear hbw hh hok2 hlk2)
  · go_ret2
    have hb2 : Below w.heap.size w w2 := HXB.out.trans ((HBW.out.less HXB.out.size).below (fun k hk e => by have : k = w.heap.size + 1 + 1 + 1 := e; omega))
    exact ⟨_, rfl, by omega, HOK2.out, HLK2.out, hb2⟩
  · have hbA : Below X.heap.size X (X.alloc (.cells #[.int .i64 0] 36)) := (Below.refl _ _).alloc (Nat.le_refl _) _
    refine (mostin_any l N pt bm bn bx g base R w _ _ _ _ _ (w.heap.size + 1 + 1 + 1) HI.out (HXB.out.trans (hbA.mono HXB.out.size)) (has_below hbA HX3.out) (has_below hbA HX5.out) (has_below hbA HX8.out) (has_below hbA HX9.out) (by omega) (mapOk_eq (hbA.block _ HXO.out.lt) HXO.out) (by rw [mapOf_eq (hbA.block _ HXO.out.lt)]; exact HXL.out)).mono ?_
    rintro e w' ⟨rfl, h1, h2, h3⟩
    have hs2 : X.heap.size < (X.alloc (.cells #[.int .i64 0] 36)).heap.size := by simp
    exact ⟨rfl, (ButS.of hbA).trans (h1.less hbA.size), h1.has (has_new rfl) hs2 (fun e => by have : X.heap.size = w.heap.size + 1 + 1 + 1 := e; omega), h2, h3⟩
/-- Of no tree. -/
theorem smost_nil (bn bx : Option Nat) (w : World) : Calls Try.prog 12 #[.pointer none, .map bn, .map bx] w fun e w' => e = .returned (.tuple #[.map none, .int .i64 1]) ∧ Below w.heap.size w w' := by
  go_enter Try.func12, Try.ntmps12
  go_wp2_with fail
  go_ret2
  exact ⟨rfl, by (repeat' (first | (with_reducible exact Below.refl _ _) | (with_reducible assumption) | (with_reducible refine below_from_drew ?_) | (with_reducible refine Below.alloc ?_ ?_ _) | (with_reducible refine Below.drew ?_) | (with_reducible refine below_drewN ?_ _) | (with_reducible refine Below.setCell ?_ ?_ _) | (with_reducible refine below_via ?_ (by assumption) ?_) | (with_reducible refine below_ov ?_ ?_ _ _) | go_size))⟩
end Go.Proofs.Ytjcbphhemmdnjaa
