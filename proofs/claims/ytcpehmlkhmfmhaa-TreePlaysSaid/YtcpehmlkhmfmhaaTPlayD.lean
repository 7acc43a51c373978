/- clapboardlaw10: TreePlays walked. -/
import Derived.Test.YtcpehmlkhmfmhaaTPlayB
import Derived.Test.YtcpehmlkhmfmhaaTPlayC
import Derived.Test.YtcpehmlkhmfmhaaRefF
import Derived.Test.YtcpehmlkhmfmhaaOpenA
namespace Go.Proofs.Ytcpehmlkhmfmhaa
open Go.RowKit
set_option linter.unusedSimpArgs false
set_option linter.unusedVariables false
-- below_from_drew
attribute [local go_sem] ov_cell_same ov_cell_other ov_frozen_same ov_frozen_other ov_size ov_setCell_same ov_setCell_other cell_alloc_old frozen_alloc_old setCell_alloc_old old_alloc old_ov old_drew old_drewN old_setCell
attribute [local go_sem ↓] run_max2 run_min2

/-- The tree, the document's tree, the variable that holds this one. -/
structure PlayS (w : World) (p bm base pm : Nat) (R : Rows) (next : Int) (y : Option Addr) (l c : Nat) (wr : World) : Prop where
  bel : Below w.heap.size w wr
  tree : TreeAt wr p bm base R next
  ref : RefAt wr (.agg #[.slice y l c, .int .i64 next]) R next
  var : Has wr pm #[.slice y l c, .int .i64 next] 28
theorem PlayS.below {w : World} {p bm base pm : Nat} {R : Rows} {next : Int} {y : Option Addr} {l c : Nat} {wr w' : World} (h : PlayS w p bm base pm R next y l c wr) (hb : Below wr.heap.size wr w') : PlayS w p bm base pm R next y l c w' :=
  ⟨below_via h.bel hb h.bel.size, h.tree.below hb, h.ref.below hb, has_below hb h.var⟩
theorem wf_len {R : Rows} {next : Int} (h : WfR R next) (h1 : 1 ≤ next) : R.length ≤ next.toNat := by
  have q := nodup_len_le (nums R) ((List.range next.toNat).map fun k : Nat => (k : Int)) h.nodup (fun x hx => by
    obtain ⟨y, hy, rfl⟩ := List.mem_map.1 hx
    have := h.num y hy
    exact List.mem_map.2 ⟨y.1.toNat, List.mem_range.2 (by omega), by simp; omega⟩)
  rw [nums_length, List.length_map, List.length_range] at q
  exact q
theorem TreeAt.less {w : World} {p bm base base' : Nat} {R : Rows} {next : Int} (h : TreeAt w p bm base R next) (hb : base' ≤ base) : TreeAt w p bm base' R next :=
  ⟨h.str, h.ok, h.ne, Nat.le_trans hb h.hp, Nat.le_trans hb h.hb, h.wf, h.fo.more (fun b q => ⟨Nat.le_trans hb q.1, q.2⟩)⟩
theorem TreeAt.ovb {w : World} {p bm base b : Nat} {R : Rows} {next : Int} {cs : Array Value} {T : TypeId} (h : TreeAt w p bm base R next) (hb : b < base) (h1 : b ≠ p) (h2 : b ≠ bm) : TreeAt (ov w b cs T) p bm base R next :=
  h.to (by simp) (fun k _ hk => Array.getElem?_setIfInBounds_ne (by rcases hk with hk | hk | hk <;> omega))
/-- A tree of the root alone: its kids lie wherever one likes. -/
theorem TreeAt.again {w : World} {p bm base base' : Nat} {next : Int} (h : TreeAt w p bm base [(0, 0)] next) (hb : base' ≤ w.heap.size) : TreeAt w p bm base' [(0, 0)] next := by
  refine ⟨h.str, h.ok, h.ne, hb, hb, h.wf, fun A n d C e => ?_, fun A n d C e => by simp at e, h.fo.miss, h.fo.len⟩
  obtain ⟨v, h1, a, c, h2, h3, h4, _⟩ := h.fo.main A n d C e
  refine ⟨v, h1, a, c, h2, h3, h4, fun q => ?_⟩
  have hC : C = [] := by
    cases A with
    | nil => injection e with _ e2; exact e2.symm
    | cons x A => simp at e
  subst hC
  simp [kidsR, subR, lvl] at q
theorem refAt_ov1 {u : World} {p : Nat} {x : Option Addr} {y z : Nat} {k : Int} {T T' : TypeId} {c : Array Value} {R : Rows} {v : Value} {next : Int} (hp : Has u p #[.slice x y z, .int .i64 k] T) (h0 : 0 < R.length) (h : RefAt u v R next) : RefAt (ov u p c T') v R next := by
  obtain ⟨b, off, cc, h1, h2, h3, h4⟩ := h
  obtain ⟨b', off', e, h5, h6⟩ := (rowsAt_ov1 (c := c) (T' := T') hp (a := some ⟨b, off, none⟩) (R := R) (fun _ => ⟨b, off, rfl, h3, h4⟩)) h0
  cases e
  exact ⟨b, off, cc, h1, h2, h5, h6⟩
/-- A round, behind the operation: the trees, their copies. -/
structure RoundS (w : World) (p bm bs pm p2 bm2 Wb po : Nat) (R2 : Rows) (next2 : Int) (y2 : Option Addr) (l2 c2 : Nat) (R : Rows) (next : Int) (y : Option Addr) (l c : Nat) (wz : World) : Prop where
  play : PlayS w p bm bs pm R2 next2 y2 l2 c2 wz
  copy : TreeAt wz p2 bm2 Wb R next
  oldv : Has wz po #[.slice y l c, .int .i64 next] 28
  oldr : RefAt wz (.agg #[.slice y l c, .int .i64 next]) R next
section
variable {w wz w' : World} {p bm bs pm p2 bm2 Wb po : Nat} {R2 R : Rows} {next2 next : Int} {y2 y : Option Addr} {l2 c2 l c : Nat}
theorem RoundS.below (h : RoundS w p bm bs pm p2 bm2 Wb po R2 next2 y2 l2 c2 R next y l c wz) (hb : Below wz.heap.size wz w') : RoundS w p bm bs pm p2 bm2 Wb po R2 next2 y2 l2 c2 R next y l c w' :=
  ⟨h.play.below hb, h.copy.below hb, has_below hb h.oldv, h.oldr.below hb⟩
theorem round_store (hb : Below w.heap.size w wz) (hT : TreeAt wz p bm bs R2 next2) (hR : RefAt wz (.agg #[.slice y2 l2 c2, .int .i64 next2]) R2 next2) (hV : Has wz pm #[.slice y l c, .int .i64 next] 28) (hO : Has wz po #[.slice y l c, .int .i64 next] 28) (hC : TreeAt wz p2 bm2 Wb R next) (hQ : RefAt wz (.agg #[.slice y l c, .int .i64 next]) R next)
    (s1 : w.heap.size ≤ pm) (s2 : pm < bs) (s3 : pm < Wb) (s4 : Wb ≤ p2) (s5 : Wb ≤ bm2) (s6 : Wb ≤ po) : RoundS w p bm bs pm p2 bm2 Wb po R2 next2 y2 l2 c2 R next y l c (ov wz pm #[.slice y2 l2 c2, .int .i64 next2] 28) := by
  have hn := has_ne_tree hV hT (by intro m; simp)
  exact ⟨⟨below_ov hb s1 _ _, hT.ovb s2 (fun e => hn (.inl e)) (fun e => hn (.inr e)), refAt_ov1 hV hT.wf.pos hR, has_ov_same hV.lt⟩, hC.ovb s3 (by omega) (by omega), has_ov_other (by omega) hO, refAt_ov1 hV hC.wf.pos hQ⟩
end
/-- Where the loop of TreePlays stands. -/
def PlayI (w : World) (p bm base pm m : Nat) (iv : Value) (wr : World) : Prop :=
  ∃ (i : Nat) (R : Rows) (next : Int) (y : Option Addr) (l c : Nat), iv = .int .i64 (i : Int) ∧ i ≤ m ∧ i ≤ 40 ∧ PlayS w p bm base pm R next y l c wr ∧ 1 ≤ next ∧ next ≤ i + 1
set_option maxRecDepth 100000 in
set_option maxHeartbeats 16000000 in
theorem tplays_any (a : Option Addr) (cap : Nat) (xs : List ActZ) (w : World) (hcap : xs.length ≤ cap) (h : ActsIn w a xs) :
    Calls Try.prog 3 #[.slice a xs.length cap] w fun e w' => e = .returned (.bool true) ∧ Below w.heap.size w w' := by
  obtain ⟨m, hm⟩ : ∃ m, xs.length = m := ⟨_, rfl⟩
  rw [hm] at hcap ⊢
  have HM := Lib.hid hm; have HA := Lib.hid h
  clear hm h
  go_enter Try.func3, Try.ntmps3
  go_wp2_with fail
  refine (speaks10_any w).mono ?_
  rintro e1 w1 ⟨rfl, hb1⟩
  have HB1 := Lib.hid hb1
  clear hb1
  go_wp2_with fail
  refine (tnew_any w1).mono ?_
  rintro e2 w2 ⟨p, bm, rfl, hT2, hp1, hm1, hb2⟩
  have HT2 := Lib.hid hT2
  have HB2 := Lib.hid (below_via HB1.out hb2 HB1.out.size)
  have HBS := Lib.hid HB1.out.size
  clear hT2 hb2
  go_wp2_with fail
  refine (rnew_any w2).mono ?_
  rintro e3 w3 ⟨y0, c0, rfl, hc0, hR0, hb3⟩
  have HB3 := Lib.hid (below_via HB2.out hb3 HB2.out.size)
  have HT3 := Lib.hid (HT2.out.below hb3)
  have HR3 := Lib.hid (refAt_mk (next := 1) hR0 rfl (by simp) hc0)
  clear hR0 hb3
  have hz3 := HB3.out.size
  go_wp2_with fail
  have hst : PlayS w p bm (w3.heap.size + 1) w3.heap.size [(0, 0)] 1 y0 1 c0 (w3.alloc (.cells #[.slice y0 1 c0, .int .i64 1] 28)) := by
    have hb : Below w3.heap.size w3 (w3.alloc (.cells #[.slice y0 1 c0, .int .i64 1] 28)) := by (repeat' (first | (with_reducible exact Below.refl _ _) | (with_reducible assumption) | (with_reducible refine below_from_drew ?_) | (with_reducible refine Below.alloc ?_ ?_ _) | (with_reducible refine Below.drew ?_) | (with_reducible refine below_drewN ?_ _) | (with_reducible refine Below.setCell ?_ ?_ _) | (with_reducible refine below_via ?_ (by assumption) ?_) | (with_reducible refine below_ov ?_ ?_ _ _) | go_size))
    exact ⟨by have q := HB3.out; (repeat' (first | (with_reducible exact Below.refl _ _) | (with_reducible assumption) | (with_reducible refine below_from_drew ?_) | (with_reducible refine Below.alloc ?_ ?_ _) | (with_reducible refine Below.drew ?_) | (with_reducible refine below_drewN ?_ _) | (with_reducible refine Below.setCell ?_ ?_ _) | (with_reducible refine below_via ?_ (by assumption) ?_) | (with_reducible refine below_ov ?_ ?_ _ _) | go_size)), (HT3.out.below hb).again (by simp), HR3.out.below hb, has_new rfl⟩
  have HST := Lib.hid hst
  clear hst
  generalize hPM : w3.heap.size = pm at *
  have HPM := Lib.hid hPM
  clear hPM
  obtain ⟨bs, hbs⟩ : ∃ bs, pm + 1 = bs := ⟨_, rfl⟩
  rw [hbs] at HST
  have hpmb : pm < bs := by omega
  have hpmw : w.heap.size ≤ pm := by omega
  have hpw : w.heap.size ≤ p := Nat.le_trans HBS.out hp1
  have hbmw : w.heap.size ≤ bm := Nat.le_trans HBS.out hm1
  clear hbs hp1 hm1
  go_loopw [5] (fun iv wr => PlayI w p bm bs pm m iv wr) (fun iv _ => m - (intOf iv).toNat)
  case atStart => unfold PlayI; exact ⟨0, _, _, _, _, _, rfl, Nat.zero_le _, by omega, HST.out, by omega, by omega⟩
  case round =>
    unfold PlayI at hrel
    obtain ⟨i, R, next, y, l, c, rfl, hi, hi4, hS, hx1, hx2⟩ := hrel
    have HS := Lib.hid hS
    have hRl := wf_len hS.tree.wf hx1
    have g0 := has_cell hS.var (o := 0) rfl
    have g1 := has_cell hS.var (o := 1) rfl
    have hl0 := hS.var.lt
    have HAA := Lib.hid (HA.out.below hS.bel)
    clear hS
    go_upto_region 6 with fail
    go_cut [36] (fun s wx => s = .bool (decide (i < m ∧ i < 40)) ∧ wx = wr)
    case first =>
      rcases Nat.lt_or_ge i m with c1 | c1
      · have c2 : (i : Int) < m := by omega
        rcases Nat.lt_or_ge i 40 with c3 | c3
        · have c4 : (i : Int) < 40 := by omega
          go_wp2_with fail
          go_meet
          exact ⟨by simp [c1, c3], rfl⟩
        · have c4 : decide ((i : Int) < 40) = false := by simp; omega
          have c5 : decide (i < 40) = false := by simp; omega
          go_wp2_with fail
          go_meet
          exact ⟨by simp; omega, rfl⟩
      · have c2 : decide ((i : Int) < m) = false := by simp; omega
        have c5 : decide (i < m) = false := by simp; omega
        go_wp2_with fail
        go_meet
        exact ⟨by simp; omega, rfl⟩
    case rest =>
      obtain ⟨rfl, hwc⟩ := hcut
      obtain rfl : wr = wc := hwc.symm
      by_cases hc : i < m ∧ i < 40
      · have hd : decide (i < m ∧ i < 40) = true := by simp [hc]
        rw [hd]
        obtain ⟨c1, c2⟩ := hc
        clear hd
        obtain ⟨ab, ao, rfl, hab, hac⟩ := HAA.out.2 (by rw [HM.out]; omega)
        obtain ⟨k0, k1, k2, k3⟩ := hac i (by rw [HM.out]; exact c1)
        have hin := HAA.out.1 (xs.getD i a0Z) (by
          have h1 : i < xs.length := by rw [HM.out]; exact c1
          rw [List.getD_eq_getElem?_getD, List.getElem?_eq_getElem h1]; exact List.getElem_mem h1)
        have hi0 : (0 : Int) ≤ (i : Int) := by omega
        have hi1 : (i : Int) < m := by omega
        generalize xs.getD i a0Z = x at *
        obtain ⟨k, n, q, t⟩ := x
        simp only at k0 k1 k2 k3 hin
        obtain ⟨⟨ink0, ink1⟩, ⟨inn0, inn1⟩, ⟨inq0, inq1⟩, ⟨int0, int1⟩⟩ := hin
        have hob : Old wr ab := hab
        clear hac
        go_upto_region 9 with fail
        have hbW : Below wr.heap.size wr (wr.alloc (.cells #[.int .i64 k, .int .i64 n, .int .i64 q, .int .i64 t] 31)) := by (repeat' (first | (with_reducible exact Below.refl _ _) | (with_reducible assumption) | (with_reducible refine below_from_drew ?_) | (with_reducible refine Below.alloc ?_ ?_ _) | (with_reducible refine Below.drew ?_) | (with_reducible refine below_drewN ?_ _) | (with_reducible refine Below.setCell ?_ ?_ _) | (with_reducible refine below_via ?_ (by assumption) ?_) | (with_reducible refine below_ov ?_ ?_ _ _) | go_size))
        have HSW := Lib.hid (HS.out.below hbW)
        have HPX := Lib.hid (has_new (w := wr) (cs := #[.int .i64 k, .int .i64 n, .int .i64 q, .int .i64 t]) (T := 31) rfl)
        have HAW := Lib.hid (HAA.out.below hbW)
        clear hbW g0 g1 hl0 k0 k1 k2 k3 hob
        generalize hW : wr.alloc (.cells #[.int .i64 k, .int .i64 n, .int .i64 q, .int .i64 t] 31) = W at *
        have HW := Lib.hid hW
        clear hW
        have g0 := has_cell HSW.out.var (o := 0) rfl
        have g1 := has_cell HSW.out.var (o := 1) rfl
        have hl0 := HSW.out.var.lt
        have hRm : R.length ≤ 100000 := by omega
        go_cut [7, 8] (fun s7 s8 wx => ∃ p2 bm2 po : Nat, s7 = .pointer (some ⟨p2, 0, none⟩) ∧ s8 = .pointer (some ⟨po, 0, none⟩) ∧ Below W.heap.size W wx ∧ W.heap.size ≤ po ∧ W.heap.size ≤ p2 ∧ W.heap.size ≤ bm2 ∧ TreeAt wx p2 bm2 W.heap.size R next ∧ Has wx po #[.slice y l c, .int .i64 next] 28)
        case first =>
          refine region_tree (.rd 0 (.rd 2 (.br 1 (.mk 3 (.rd 4 (.lt 5 .nl))) (.mk 3 (.mk 1 (.rd 4 (.lt 5 .nl))))))) (by kernel_rfl) (by kernel_rfl) (fun _ _ d _ _ h => by cases d <;> exact h) (fun hS => ?_)
          (refine wpT_read (v := ?_) rfl (.inl ⟨by rfl, fun wx hbx => ?_⟩) ?_; rotate_left; (focus (obtain ⟨cx0, fx0, zx0⟩ := bk hbx (pm) (by first | omega | (simp; done) | (simp; omega)); go_simp; (try go_bits); (try with_reducible rfl))); try simp only [Act.put, List.setIfInBounds_toArray, List.set_cons_zero, List.set_cons_succ])
          (refine wpT_read (v := ?_) rfl (.inl ⟨by rfl, fun wx hbx => ?_⟩) ?_; rotate_left; (focus (obtain ⟨cx0, fx0, zx0⟩ := bk hbx (pm) (by first | omega | (simp; done) | (simp; omega)); go_simp; (try go_bits); (try with_reducible rfl))); try simp only [Act.put, List.setIfInBounds_toArray, List.set_cons_zero, List.set_cons_succ])
          refine wpT_both rfl (fun K hK => ?_) ?_
          (focus ((go_simp; (go_at_call 15; (with_reducible refine (copy_any p bm bs R next _ (HSW.out.tree.below (by (repeat' (first | (with_reducible exact Below.refl _ _) | (with_reducible assumption) | (with_reducible refine below_from_drew ?_) | (with_reducible refine Below.alloc ?_ ?_ _) | (with_reducible refine Below.drew ?_) | (with_reducible refine below_drewN ?_ _) | (with_reducible refine Below.setCell ?_ ?_ _) | (with_reducible refine below_via ?_ (by assumption) ?_) | (with_reducible refine below_ov ?_ ?_ _ _) | go_size)))) hRm).mono ?_); rintro e u1 ⟨p2, bm2, rfl, hT2, hp2, hm2, hb⟩; have hz := hb.size; refine (fun hB => ?_ : Below W.heap.size W u1 → _) ?_; rotate_left; (focus ((repeat' (first | (with_reducible exact Below.refl _ _) | (with_reducible assumption) | (with_reducible refine below_from_drew ?_) | (with_reducible refine Below.alloc ?_ ?_ _) | (with_reducible refine Below.drew ?_) | (with_reducible refine below_drewN ?_ _) | (with_reducible refine Below.setCell ?_ ?_ _) | (with_reducible refine below_via ?_ (by assumption) ?_) | (with_reducible refine below_ov ?_ ?_ _ _) | go_size)); done)); (try simp only [World.size_alloc, World.size_setCell, World.size_drew, ov_size] at hz)); (try simp only []); (try have hbk := hb); refine hK _ _ ?_ (fun hS2 => ?_); (focus ((repeat' (first | (with_reducible exact Below.refl _ _) | (with_reducible assumption) | (with_reducible refine below_from_drew ?_) | (with_reducible refine Below.alloc ?_ ?_ _) | (with_reducible refine Below.drew ?_) | (with_reducible refine below_drewN ?_ _) | (with_reducible refine Below.setCell ?_ ?_ _) | (with_reducible refine below_via ?_ (by assumption) ?_) | (with_reducible refine below_ov ?_ ?_ _ _) | go_size)); done)); clear hK K hS; have hS := hS2; clear hS2; (try clear hb); try simp only [Act.put, List.setIfInBounds_toArray, List.set_cons_zero, List.set_cons_succ]); (refine wpT_make rfl (fun K hK => ?_); go_simp; (try simp only []); (try simp only []); (try have hbk := hb); refine hK _ _ ?_ (fun hS2 => ?_); (focus ((repeat' (first | (with_reducible exact Below.refl _ _) | (with_reducible assumption) | (with_reducible refine below_from_drew ?_) | (with_reducible refine Below.alloc ?_ ?_ _) | (with_reducible refine Below.drew ?_) | (with_reducible refine below_drewN ?_ _) | (with_reducible refine Below.setCell ?_ ?_ _) | (with_reducible refine below_via ?_ (by assumption) ?_) | (with_reducible refine below_ov ?_ ?_ _ _) | go_size)); done)); clear hK K hS; have hS := hS2; clear hS2; (try clear hb); try simp only [Act.put, List.setIfInBounds_toArray, List.set_cons_zero, List.set_cons_succ]); (refine wpT_read (v := ?_) rfl (.inl ⟨by rfl, fun wx hbx => ?_⟩) ?_; rotate_left; (focus (obtain ⟨cx0, fx0, zx0⟩ := bk hbx (pm) (by first | omega | (simp; done) | (simp; omega)); go_simp; (try go_bits); (try with_reducible rfl))); try simp only [Act.put, List.setIfInBounds_toArray, List.set_cons_zero, List.set_cons_succ])))
          rotate_left 1
          (focus (refine wpT_make rfl (fun K hK => ?_); (go_simp; (try simp only []); (try simp only []); (try have hbk := hb); refine hK _ _ ?_ (fun hS2 => ?_); (focus ((repeat' (first | (with_reducible exact Below.refl _ _) | (with_reducible assumption) | (with_reducible refine below_from_drew ?_) | (with_reducible refine Below.alloc ?_ ?_ _) | (with_reducible refine Below.drew ?_) | (with_reducible refine below_drewN ?_ _) | (with_reducible refine Below.setCell ?_ ?_ _) | (with_reducible refine below_via ?_ (by assumption) ?_) | (with_reducible refine below_ov ?_ ?_ _ _) | go_size)); done)); clear hK K hS; have hS := hS2; clear hS2; (try clear hb); try simp only [Act.put, List.setIfInBounds_toArray, List.set_cons_zero, List.set_cons_succ]); (refine wpT_make rfl (fun K hK => ?_); go_simp; (go_at_call 15; (with_reducible refine (copy_any p bm bs R next _ (HSW.out.tree.below (by (repeat' (first | (with_reducible exact Below.refl _ _) | (with_reducible assumption) | (with_reducible refine below_from_drew ?_) | (with_reducible refine Below.alloc ?_ ?_ _) | (with_reducible refine Below.drew ?_) | (with_reducible refine below_drewN ?_ _) | (with_reducible refine Below.setCell ?_ ?_ _) | (with_reducible refine below_via ?_ (by assumption) ?_) | (with_reducible refine below_ov ?_ ?_ _ _) | go_size)))) hRm).mono ?_); rintro e u1 ⟨p2, bm2, rfl, hT2, hp2, hm2, hb⟩; have hz := hb.size; refine (fun hB => ?_ : Below W.heap.size W u1 → _) ?_; rotate_left; (focus ((repeat' (first | (with_reducible exact Below.refl _ _) | (with_reducible assumption) | (with_reducible refine below_from_drew ?_) | (with_reducible refine Below.alloc ?_ ?_ _) | (with_reducible refine Below.drew ?_) | (with_reducible refine below_drewN ?_ _) | (with_reducible refine Below.setCell ?_ ?_ _) | (with_reducible refine below_via ?_ (by assumption) ?_) | (with_reducible refine below_ov ?_ ?_ _ _) | go_size)); done)); (try simp only [World.size_alloc, World.size_setCell, World.size_drew, ov_size] at hz)); (try simp only []); (try have hbk := hb); refine hK _ _ ?_ (fun hS2 => ?_); (focus ((repeat' (first | (with_reducible exact Below.refl _ _) | (with_reducible assumption) | (with_reducible refine below_from_drew ?_) | (with_reducible refine Below.alloc ?_ ?_ _) | (with_reducible refine Below.drew ?_) | (with_reducible refine below_drewN ?_ _) | (with_reducible refine Below.setCell ?_ ?_ _) | (with_reducible refine below_via ?_ (by assumption) ?_) | (with_reducible refine below_ov ?_ ?_ _ _) | go_size)); done)); clear hK K hS; have hS := hS2; clear hS2; (try clear hb); try simp only [Act.put, List.setIfInBounds_toArray, List.set_cons_zero, List.set_cons_succ]); (refine wpT_read (v := ?_) rfl (.inl ⟨by rfl, fun wx hbx => ?_⟩) ?_; rotate_left; (focus (obtain ⟨cx0, fx0, zx0⟩ := bk hbx (pm) (by first | omega | (simp; done) | (simp; omega)); go_simp; (try go_bits); (try with_reducible rfl))); try simp only [Act.put, List.setIfInBounds_toArray, List.set_cons_zero, List.set_cons_succ])))
          · have hh : Has u1 W.heap.size #[.slice none 0 0, .int .i64 0] 28 := has_below hbk (by (repeat' (first | (with_reducible refine has_drew ?_) | (with_reducible refine has_drewN ?_) | (with_reducible refine has_new ?_; (first | (with_reducible rfl) | omega | (simp; done) | (simp; omega))) | (with_reducible refine has_ov_same ?_; (first | (with_reducible rfl) | omega | (simp; done) | (simp; omega))) | (with_reducible refine has_alloc ?_) | (with_reducible refine has_ov_other ?_ ?_; (focus (first | (with_reducible rfl) | omega | (simp; done) | (simp; omega)))) | (with_reducible assumption))))
            have HOV := Lib.hid (ov_self hh)
            have hl := hh.lt
            have hT3 : TreeAt u1 p2 bm2 (W.heap.size + 1) R next := hT2.less (by simp)
            have hp3 : W.heap.size + 1 ≤ p2 := by simpa using hp2
            have hm3 : W.heap.size + 1 ≤ bm2 := by simpa using hm2
            clear hp2 hm2
            have HT9 := Lib.hid hT3; have HB9 := Lib.hid hB
            clear hh hT2 hT3 hbk hS hB
            rw [← HOV.out]
            refine wpT_late rfl (fun K hK => ?_)
            go_simp
            refine hK _ _ ?_
            clear hK K
            (try simp only [Act.put, List.setIfInBounds_toArray, List.set_cons_zero, List.set_cons_succ])
            refine wpT_nil ?_
            go_wp2_with fail
            go_meet
            exact ⟨p2, bm2, W.heap.size, rfl, rfl, by have q := HB9.out; (repeat' (first | (with_reducible exact Below.refl _ _) | (with_reducible assumption) | (with_reducible refine below_from_drew ?_) | (with_reducible refine Below.alloc ?_ ?_ _) | (with_reducible refine Below.drew ?_) | (with_reducible refine below_drewN ?_ _) | (with_reducible refine Below.setCell ?_ ?_ _) | (with_reducible refine below_via ?_ (by assumption) ?_) | (with_reducible refine below_ov ?_ ?_ _ _) | go_size)), Nat.le_refl _, by omega, by omega, (HT9.out.ovb (by omega) (by omega) (by omega)).less (by omega), has_ov_same hl⟩
          · have HT9 := Lib.hid (hT2.less (show W.heap.size ≤ _ from by first | exact Nat.le_refl _ | simp)); have HB9 := Lib.hid hB
            have hz9 := hB.size
            have hp3 : W.heap.size ≤ p2 := by simpa using hp2
            have hm3 : W.heap.size ≤ bm2 := by simpa using hm2
            clear hp2 hm2
            clear hT2 hS hB
            refine wpT_late rfl (fun K hK => ?_)
            go_simp
            refine hK _ _ ?_
            clear hK K
            (try simp only [Act.put, List.setIfInBounds_toArray, List.set_cons_zero, List.set_cons_succ])
            refine wpT_nil ?_
            go_wp2_with fail
            go_meet
            exact ⟨p2, bm2, u1.heap.size, rfl, rfl, by have q := HB9.out; (repeat' (first | (with_reducible exact Below.refl _ _) | (with_reducible assumption) | (with_reducible refine below_from_drew ?_) | (with_reducible refine Below.alloc ?_ ?_ _) | (with_reducible refine Below.drew ?_) | (with_reducible refine below_drewN ?_ _) | (with_reducible refine Below.setCell ?_ ?_ _) | (with_reducible refine below_via ?_ (by assumption) ?_) | (with_reducible refine below_ov ?_ ?_ _ _) | go_size)), hz9, hp3, hm3, HT9.out.below (by (repeat' (first | (with_reducible exact Below.refl _ _) | (with_reducible assumption) | (with_reducible refine below_from_drew ?_) | (with_reducible refine Below.alloc ?_ ?_ _) | (with_reducible refine Below.drew ?_) | (with_reducible refine below_drewN ?_ _) | (with_reducible refine Below.setCell ?_ ?_ _) | (with_reducible refine below_via ?_ (by assumption) ?_) | (with_reducible refine below_ov ?_ ?_ _ _) | go_size))), has_new rfl⟩
        case rest =>
          obtain ⟨p2, bm2, po, rfl, rfl, hb9, hpo, hp2, hm2, hT9, hO9⟩ := hcut
          have HS9 := Lib.hid (HSW.out.below hb9); have HX9 := Lib.hid (has_below hb9 HPX.out); have HC9 := Lib.hid hT9; have HO9 := Lib.hid hO9; have HA9 := Lib.hid (HAW.out.below hb9)
          have hpmW : pm < W.heap.size := hl0
          have hpW : p < W.heap.size := HSW.out.tree.str.lt
          have hbmW : bm < W.heap.size := HSW.out.tree.ok.lt
          have hpxW : wr.heap.size < W.heap.size := HPX.out.lt
          have hB9 := Lib.hid hb9
          clear hb9 hT9 hO9 g0 g1 hl0
          generalize hpx : wr.heap.size = px at *
          have HPXE := Lib.hid hpx
          clear hpx
          have hl0 := HX9.out.lt
          have g0 := has_cell HX9.out (o := 0) rfl
          have g1 := has_cell HX9.out (o := 1) rfl
          have g2 := has_cell HX9.out (o := 2) rfl
          have g3 := has_cell HX9.out (o := 3) rfl
          go_upto_region 16 with fail
          generalize (wrap64 (k.tmod 4 + 4)).tmod 4 = md at *
          clear ink0 ink1 inn0 inn1 inq0 inq1 int0 int1
          have HWF := Lib.hid HS9.out.tree.wf
          have hRp := HS9.out.tree.wf.pos
          have hzc := HS9.out.bel.size
          have hRl40 : R.length ≤ 41 := by omega
          by_cases hm2 : md = 2
          · have em2 : (md == 2) = true := by simp [hm2]
            clear hm2
            have hD := drop_any p bm bs R next n wc HS9.out.tree hRm
            unfold DropPost at hD
            have HD := Lib.hid hD
            clear hD
            go_wp2_with fail
            refine HD.out.mono ?_
            rintro e10 w10 ⟨rfl, hT10, hs10⟩
            have HT10 := Lib.hid hT10
            have HR10 := Lib.hid (HS9.out.ref.tree hRp HS9.out.tree hs10)
            have HV10 := Lib.hid (has_tree HS9.out.var HS9.out.tree hs10 (by intro m; simp))
            have HX10 := Lib.hid (has_tree HX9.out HS9.out.tree hs10 (by intro m; simp))
            have HO10 := Lib.hid (has_tree HO9.out HS9.out.tree hs10 (by intro m; simp))
            have HC10 := Lib.hid (HC9.out.other hs10 hpW hbmW hp2 hm2)
            have HB10 := Lib.hid (HS9.out.bel.trans (buts_below hs10 hzc hpw hbmw))
            clear hT10 hs10 g0 g1 g2 g3 hl0
            have hl0 := HX10.out.lt
            have g0 := has_cell HX10.out (o := 0) rfl
            have g1 := has_cell HX10.out (o := 1) rfl
            have g2 := has_cell HX10.out (o := 2) rfl
            have g3 := has_cell HX10.out (o := 3) rfl
            have v0 := has_cell HV10.out (o := 0) rfl
            have v1 := has_cell HV10.out (o := 1) rfl
            have hv := HV10.out.lt
            have HRD := Lib.hid (rdrop_any _ R next n w10 HR10.out HWF.out hRm)
            go_wp2_with fail
            refine HRD.out.mono ?_
            rintro e11 w11 ⟨v11, rfl, hR11, _, hb11⟩
            have HR11 := Lib.hid hR11
            obtain ⟨b11, o11, c11, rfl, _⟩ := hR11
            have HT11 := Lib.hid (HT10.out.below hb11)
            have HV11 := Lib.hid (has_below hb11 HV10.out)
            have HO11 := Lib.hid (has_below hb11 HO10.out)
            have HC11 := Lib.hid (HC10.out.below hb11)
            have HQ11 := Lib.hid (HR10.out.below hb11)
            have HB11 := Lib.hid (below_via HB10.out hb11 HB10.out.size)
            clear hb11 g0 g1 g2 g3 hl0 v0 v1 hv
            have hnx : nextT next 1 = next := rfl
            obtain ⟨R2, hR2⟩ : ∃ R2, (dropT R n).1 = R2 := ⟨_, rfl⟩
            obtain ⟨f2, hf2⟩ : ∃ f2, (dropT R n).2 = f2 := ⟨_, rfl⟩
            rw [hR2] at HR11 HT11 ⊢
            rw [hf2]
            have hx2' : 1 ≤ next := hx1
            have HRO := Lib.hid (round_store HB11.out HT11.out HR11.out HV11.out HO11.out HC11.out HQ11.out hpmw hpmb hpmW hp2 hm2 hpo)
            have HOV := Lib.hid (ov_self HV11.out)
            have hv := HV11.out.lt
            have hov : Old w11 pm := hv
            rw [← HOV.out]
            clear hR2 hf2
            go_wp2_with fail
            have hRL2 := wf_len HT11.out.wf hx2'
            refine (agrees_any p bm bs R2 next next _ _ (HRO.out.play.tree.below (by (repeat' (first | (with_reducible exact Below.refl _ _) | (with_reducible assumption) | (with_reducible refine below_from_drew ?_) | (with_reducible refine Below.alloc ?_ ?_ _) | (with_reducible refine Below.drew ?_) | (with_reducible refine below_drewN ?_ _) | (with_reducible refine Below.setCell ?_ ?_ _) | (with_reducible refine below_via ?_ (by assumption) ?_) | (with_reducible refine below_ov ?_ ?_ _ _) | go_size)))) (HRO.out.play.ref.below (by (repeat' (first | (with_reducible exact Below.refl _ _) | (with_reducible assumption) | (with_reducible refine below_from_drew ?_) | (with_reducible refine Below.alloc ?_ ?_ _) | (with_reducible refine Below.drew ?_) | (with_reducible refine below_drewN ?_ _) | (with_reducible refine Below.setCell ?_ ?_ _) | (with_reducible refine below_via ?_ (by assumption) ?_) | (with_reducible refine below_ov ?_ ?_ _ _) | go_size)))) (by omega)).mono ?_
            rintro e12 w12 ⟨rfl, hb12⟩
            have HZ12 := Lib.hid ((HRO.out.below (by (repeat' (first | (with_reducible exact Below.refl _ _) | (with_reducible assumption) | (with_reducible refine below_from_drew ?_) | (with_reducible refine Below.alloc ?_ ?_ _) | (with_reducible refine Below.drew ?_) | (with_reducible refine below_drewN ?_ _) | (with_reducible refine Below.setCell ?_ ?_ _) | (with_reducible refine below_via ?_ (by assumption) ?_) | (with_reducible refine below_ov ?_ ?_ _ _) | go_size)) : Below (ov w11 pm #[.slice (some ⟨b11, o11, none⟩) R2.length c11, .int .i64 next] 28).heap.size (ov w11 pm #[.slice (some ⟨b11, o11, none⟩) R2.length c11, .int .i64 next] 28) ((ov w11 pm #[.slice (some ⟨b11, o11, none⟩) R2.length c11, .int .i64 next] 28).alloc (.cells #[.slice (some ⟨b11, o11, none⟩) R2.length c11, .int .i64 next] 28)))).below hb12)
            clear hb12 hv hov
            have v0 := has_cell HZ12.out.play.var (o := 0) rfl
            have v1 := has_cell HZ12.out.play.var (o := 1) rfl
            have hv := HZ12.out.play.var.lt
            have o0 := has_cell HZ12.out.oldv (o := 0) rfl
            have o1 := has_cell HZ12.out.oldv (o := 1) rfl
            have ho := HZ12.out.oldv.lt
            go_wp2_with fail
            refine (agrees_any p2 bm2 W.heap.size R next next _ _ HZ12.out.copy HZ12.out.oldr (by omega)).mono ?_
            rintro e13 w13 ⟨rfl, hb13⟩
            have HZ13 := Lib.hid (HZ12.out.below hb13)
            clear hb13 v0 v1 hv o0 o1 ho
            have v0 := has_cell HZ13.out.play.var (o := 0) rfl
            have v1 := has_cell HZ13.out.play.var (o := 1) rfl
            have hv := HZ13.out.play.var.lt
            have hnx : next ∉ nums R2 := fun q => by
              obtain ⟨x, hx, e⟩ := List.mem_map.1 q
              have := HT11.out.wf.num x hx; omega
            have Hnext := Lib.hid hnx
            have hTH := thas_any p bm bs R2 next next w13 HZ13.out.play.tree
            rw [decide_eq_false hnx] at hTH
            have HTH := Lib.hid hTH
            clear hTH hnx
            go_wp2_with fail
            refine HTH.out.mono ?_
            rintro e14 w14 ⟨rfl, hb14⟩
            have HZ14 := Lib.hid (HZ13.out.below hb14)
            clear hb14 v0 v1 hv
            have v0 := has_cell HZ14.out.play.var (o := 0) rfl
            have v1 := has_cell HZ14.out.play.var (o := 1) rfl
            have hv := HZ14.out.play.var.lt
            go_wp2_with fail
            refine (kids_out p bm bs R2 next next w14 HZ14.out.play.tree Hnext.out).mono ?_
            rintro e15 w15 ⟨rfl, hb15⟩
            have HZ15 := Lib.hid (HZ14.out.below hb15)
            clear hb15 v0 v1 hv
            have v0 := has_cell HZ15.out.play.var (o := 0) rfl
            have v1 := has_cell HZ15.out.play.var (o := 1) rfl
            have hv := HZ15.out.play.var.lt
            go_wp2_with fail
            refine (depth_out p bm bs R2 next next w15 HZ15.out.play.tree Hnext.out).mono ?_
            rintro e16 w16 ⟨rfl, hb16⟩
            have HZ16 := Lib.hid (HZ15.out.below hb16)
            clear hb16 v0 v1 hv
            go_wp2_with fail
            go_roundw
            case rel => unfold PlayI; exact ⟨i + 1, R2, next, _, _, _, by go_num, by omega, by omega, HZ16.out.play, hx2', by omega⟩
            case measure => simp [intOf]; omega
          · have em2 : (md == 2) = false := by simp [hm2]
            clear hm2
            by_cases hm3 : md = 3
            · have em3 : (md == 3) = true := by simp [hm3]
              clear hm3
              have hD := tmove_any p bm bs R next n q t wc HS9.out.tree hRm
              unfold MovePost at hD
              have HD := Lib.hid hD
              clear hD
              go_wp2_with fail
              refine HD.out.mono ?_
              rintro e10 w10 ⟨rfl, hT10, hs10⟩
              have HT10 := Lib.hid hT10
              have HR10 := Lib.hid (HS9.out.ref.tree hRp HS9.out.tree hs10)
              have HV10 := Lib.hid (has_tree HS9.out.var HS9.out.tree hs10 (by intro m; simp))
              have HX10 := Lib.hid (has_tree HX9.out HS9.out.tree hs10 (by intro m; simp))
              have HO10 := Lib.hid (has_tree HO9.out HS9.out.tree hs10 (by intro m; simp))
              have HC10 := Lib.hid (HC9.out.other hs10 hpW hbmW hp2 hm2)
              have HB10 := Lib.hid (HS9.out.bel.trans (buts_below hs10 hzc hpw hbmw))
              clear hT10 hs10 g0 g1 g2 g3 hl0
              have hl0 := HX10.out.lt
              have g0 := has_cell HX10.out (o := 0) rfl
              have g1 := has_cell HX10.out (o := 1) rfl
              have g2 := has_cell HX10.out (o := 2) rfl
              have g3 := has_cell HX10.out (o := 3) rfl
              have v0 := has_cell HV10.out (o := 0) rfl
              have v1 := has_cell HV10.out (o := 1) rfl
              have hv := HV10.out.lt
              have hRD := rmove_any _ R next n q t w10 HR10.out HWF.out (by omega)
              unfold RMovePost at hRD
              have HRD := Lib.hid hRD
              clear hRD
              go_wp2_with fail
              refine HRD.out.mono ?_
              rintro e11 w11 ⟨v11, rfl, hR11, hb11⟩
              have HR11 := Lib.hid hR11
              obtain ⟨b11, o11, c11, rfl, _⟩ := hR11
              have HT11 := Lib.hid (HT10.out.below hb11)
              have HV11 := Lib.hid (has_below hb11 HV10.out)
              have HO11 := Lib.hid (has_below hb11 HO10.out)
              have HC11 := Lib.hid (HC10.out.below hb11)
              have HQ11 := Lib.hid (HR10.out.below hb11)
              have HB11 := Lib.hid (below_via HB10.out hb11 HB10.out.size)
              clear hb11 g0 g1 g2 g3 hl0 v0 v1 hv
              have hnx : nextT next 1 = next := rfl
              obtain ⟨R2, hR2⟩ : ∃ R2, (moveT R n q t).1 = R2 := ⟨_, rfl⟩
              obtain ⟨f2, hf2⟩ : ∃ f2, (moveT R n q t).2 = f2 := ⟨_, rfl⟩
              rw [hR2] at HR11 HT11 ⊢
              rw [hf2]
              have hx2' : 1 ≤ next := hx1
              have HRO := Lib.hid (round_store HB11.out HT11.out HR11.out HV11.out HO11.out HC11.out HQ11.out hpmw hpmb hpmW hp2 hm2 hpo)
              have HOV := Lib.hid (ov_self HV11.out)
              have hv := HV11.out.lt
              have hov : Old w11 pm := hv
              rw [← HOV.out]
              clear hR2 hf2
              go_wp2_with fail
              have hRL2 := wf_len HT11.out.wf hx2'
              refine (agrees_any p bm bs R2 next next _ _ (HRO.out.play.tree.below (by (repeat' (first | (with_reducible exact Below.refl _ _) | (with_reducible assumption) | (with_reducible refine below_from_drew ?_) | (with_reducible refine Below.alloc ?_ ?_ _) | (with_reducible refine Below.drew ?_) | (with_reducible refine below_drewN ?_ _) | (with_reducible refine Below.setCell ?_ ?_ _) | (with_reducible refine below_via ?_ (by assumption) ?_) | (with_reducible refine below_ov ?_ ?_ _ _) | go_size)))) (HRO.out.play.ref.below (by (repeat' (first | (with_reducible exact Below.refl _ _) | (with_reducible assumption) | (with_reducible refine below_from_drew ?_) | (with_reducible refine Below.alloc ?_ ?_ _) | (with_reducible refine Below.drew ?_) | (with_reducible refine below_drewN ?_ _) | (with_reducible refine Below.setCell ?_ ?_ _) | (with_reducible refine below_via ?_ (by assumption) ?_) | (with_reducible refine below_ov ?_ ?_ _ _) | go_size)))) (by omega)).mono ?_
              rintro e12 w12 ⟨rfl, hb12⟩
              have HZ12 := Lib.hid ((HRO.out.below (by (repeat' (first | (with_reducible exact Below.refl _ _) | (with_reducible assumption) | (with_reducible refine below_from_drew ?_) | (with_reducible refine Below.alloc ?_ ?_ _) | (with_reducible refine Below.drew ?_) | (with_reducible refine below_drewN ?_ _) | (with_reducible refine Below.setCell ?_ ?_ _) | (with_reducible refine below_via ?_ (by assumption) ?_) | (with_reducible refine below_ov ?_ ?_ _ _) | go_size)) : Below (ov w11 pm #[.slice (some ⟨b11, o11, none⟩) R2.length c11, .int .i64 next] 28).heap.size (ov w11 pm #[.slice (some ⟨b11, o11, none⟩) R2.length c11, .int .i64 next] 28) ((ov w11 pm #[.slice (some ⟨b11, o11, none⟩) R2.length c11, .int .i64 next] 28).alloc (.cells #[.slice (some ⟨b11, o11, none⟩) R2.length c11, .int .i64 next] 28)))).below hb12)
              clear hb12 hv hov
              have v0 := has_cell HZ12.out.play.var (o := 0) rfl
              have v1 := has_cell HZ12.out.play.var (o := 1) rfl
              have hv := HZ12.out.play.var.lt
              have o0 := has_cell HZ12.out.oldv (o := 0) rfl
              have o1 := has_cell HZ12.out.oldv (o := 1) rfl
              have ho := HZ12.out.oldv.lt
              go_wp2_with fail
              refine (agrees_any p2 bm2 W.heap.size R next next _ _ HZ12.out.copy HZ12.out.oldr (by omega)).mono ?_
              rintro e13 w13 ⟨rfl, hb13⟩
              have HZ13 := Lib.hid (HZ12.out.below hb13)
              clear hb13 v0 v1 hv o0 o1 ho
              have v0 := has_cell HZ13.out.play.var (o := 0) rfl
              have v1 := has_cell HZ13.out.play.var (o := 1) rfl
              have hv := HZ13.out.play.var.lt
              have hnx : next ∉ nums R2 := fun q => by
                obtain ⟨x, hx, e⟩ := List.mem_map.1 q
                have := HT11.out.wf.num x hx; omega
              have Hnext := Lib.hid hnx
              have hTH := thas_any p bm bs R2 next next w13 HZ13.out.play.tree
              rw [decide_eq_false hnx] at hTH
              have HTH := Lib.hid hTH
              clear hTH hnx
              go_wp2_with fail
              refine HTH.out.mono ?_
              rintro e14 w14 ⟨rfl, hb14⟩
              have HZ14 := Lib.hid (HZ13.out.below hb14)
              clear hb14 v0 v1 hv
              have v0 := has_cell HZ14.out.play.var (o := 0) rfl
              have v1 := has_cell HZ14.out.play.var (o := 1) rfl
              have hv := HZ14.out.play.var.lt
              go_wp2_with fail
              refine (kids_out p bm bs R2 next next w14 HZ14.out.play.tree Hnext.out).mono ?_
              rintro e15 w15 ⟨rfl, hb15⟩
              have HZ15 := Lib.hid (HZ14.out.below hb15)
              clear hb15 v0 v1 hv
              have v0 := has_cell HZ15.out.play.var (o := 0) rfl
              have v1 := has_cell HZ15.out.play.var (o := 1) rfl
              have hv := HZ15.out.play.var.lt
              go_wp2_with fail
              refine (depth_out p bm bs R2 next next w15 HZ15.out.play.tree Hnext.out).mono ?_
              rintro e16 w16 ⟨rfl, hb16⟩
              have HZ16 := Lib.hid (HZ15.out.below hb16)
              clear hb16 v0 v1 hv
              go_wp2_with fail
              go_roundw
              case rel => unfold PlayI; exact ⟨i + 1, R2, next, _, _, _, by go_num, by omega, by omega, HZ16.out.play, hx2', by omega⟩
              case measure => simp [intOf]; omega
            · have em3 : (md == 3) = false := by simp [hm3]
              clear hm3
              have hD := tadd_any p bm bs R next q t wc HS9.out.tree hRm hx1 (by omega)
              unfold AddPost at hD
              have HD := Lib.hid hD
              clear hD
              go_wp2_with fail
              refine HD.out.mono ?_
              rintro e10 w10 ⟨rfl, hT10, hs10⟩
              have HT10 := Lib.hid hT10
              have HR10 := Lib.hid (HS9.out.ref.tree hRp HS9.out.tree hs10)
              have HV10 := Lib.hid (has_tree HS9.out.var HS9.out.tree hs10 (by intro m; simp))
              have HX10 := Lib.hid (has_tree HX9.out HS9.out.tree hs10 (by intro m; simp))
              have HO10 := Lib.hid (has_tree HO9.out HS9.out.tree hs10 (by intro m; simp))
              have HC10 := Lib.hid (HC9.out.other hs10 hpW hbmW hp2 hm2)
              have HB10 := Lib.hid (HS9.out.bel.trans (buts_below hs10 hzc hpw hbmw))
              clear hT10 hs10 g0 g1 g2 g3 hl0
              have hl0 := HX10.out.lt
              have g0 := has_cell HX10.out (o := 0) rfl
              have g1 := has_cell HX10.out (o := 1) rfl
              have g2 := has_cell HX10.out (o := 2) rfl
              have g3 := has_cell HX10.out (o := 3) rfl
              have v0 := has_cell HV10.out (o := 0) rfl
              have v1 := has_cell HV10.out (o := 1) rfl
              have hv := HV10.out.lt
              have hRD := radd_any _ R next q t w10 HR10.out HWF.out (by omega) hx1 (by omega)
              unfold RAddPost at hRD
              have HRD := Lib.hid hRD
              clear hRD
              go_wp2_with fail
              refine HRD.out.mono ?_
              rintro e11 w11 ⟨v11, rfl, hR11, hb11⟩
              have HR11 := Lib.hid hR11
              obtain ⟨b11, o11, c11, rfl, _⟩ := hR11
              have HT11 := Lib.hid (HT10.out.below hb11)
              have HV11 := Lib.hid (has_below hb11 HV10.out)
              have HO11 := Lib.hid (has_below hb11 HO10.out)
              have HC11 := Lib.hid (HC10.out.below hb11)
              have HQ11 := Lib.hid (HR10.out.below hb11)
              have HB11 := Lib.hid (below_via HB10.out hb11 HB10.out.size)
              clear hb11 g0 g1 g2 g3 hl0 v0 v1 hv
              obtain ⟨R2, hR2⟩ : ∃ R2, (addT R next q t).1 = R2 := ⟨_, rfl⟩
              obtain ⟨f2, hf2⟩ : ∃ f2, (addT R next q t).2.2 = f2 := ⟨_, rfl⟩
              rw [hR2] at HR11 HT11 ⊢
              obtain ⟨k2, hk2⟩ : ∃ k2, (addT R next q t).2.1 = k2 := ⟨_, rfl⟩
              rw [hk2, hf2]
              rw [hf2] at HR11 HT11
              obtain ⟨nx, hnx⟩ : ∃ nx, nextT next f2 = nx := ⟨_, rfl⟩
              rw [show nextG next f2 = nextT next f2 from rfl, hnx] at HR11
              rw [hnx] at HT11
              have hnb : next ≤ nx ∧ nx ≤ next + 1 := by rw [← hnx]; unfold nextT; split <;> omega
              rw [show nextG next f2 = nextT next f2 from rfl, hnx]
              clear hnx hk2
              have hx2' : 1 ≤ nx := by omega
              have HRO := Lib.hid (round_store HB11.out HT11.out HR11.out HV11.out HO11.out HC11.out HQ11.out hpmw hpmb hpmW hp2 hm2 hpo)
              have HOV := Lib.hid (ov_self HV11.out)
              have hv := HV11.out.lt
              have hov : Old w11 pm := hv
              rw [← HOV.out]
              clear hR2 hf2
              go_wp2_with fail
              have hRL2 := wf_len HT11.out.wf hx2'
              refine (agrees_any p bm bs R2 nx nx _ _ (HRO.out.play.tree.below (by (repeat' (first | (with_reducible exact Below.refl _ _) | (with_reducible assumption) | (with_reducible refine below_from_drew ?_) | (with_reducible refine Below.alloc ?_ ?_ _) | (with_reducible refine Below.drew ?_) | (with_reducible refine below_drewN ?_ _) | (with_reducible refine Below.setCell ?_ ?_ _) | (with_reducible refine below_via ?_ (by assumption) ?_) | (with_reducible refine below_ov ?_ ?_ _ _) | go_size)))) (HRO.out.play.ref.below (by (repeat' (first | (with_reducible exact Below.refl _ _) | (with_reducible assumption) | (with_reducible refine below_from_drew ?_) | (with_reducible refine Below.alloc ?_ ?_ _) | (with_reducible refine Below.drew ?_) | (with_reducible refine below_drewN ?_ _) | (with_reducible refine Below.setCell ?_ ?_ _) | (with_reducible refine below_via ?_ (by assumption) ?_) | (with_reducible refine below_ov ?_ ?_ _ _) | go_size)))) (by omega)).mono ?_
              rintro e12 w12 ⟨rfl, hb12⟩
              have HZ12 := Lib.hid ((HRO.out.below (by (repeat' (first | (with_reducible exact Below.refl _ _) | (with_reducible assumption) | (with_reducible refine below_from_drew ?_) | (with_reducible refine Below.alloc ?_ ?_ _) | (with_reducible refine Below.drew ?_) | (with_reducible refine below_drewN ?_ _) | (with_reducible refine Below.setCell ?_ ?_ _) | (with_reducible refine below_via ?_ (by assumption) ?_) | (with_reducible refine below_ov ?_ ?_ _ _) | go_size)) : Below (ov w11 pm #[.slice (some ⟨b11, o11, none⟩) R2.length c11, .int .i64 nx] 28).heap.size (ov w11 pm #[.slice (some ⟨b11, o11, none⟩) R2.length c11, .int .i64 nx] 28) ((ov w11 pm #[.slice (some ⟨b11, o11, none⟩) R2.length c11, .int .i64 nx] 28).alloc (.cells #[.slice (some ⟨b11, o11, none⟩) R2.length c11, .int .i64 nx] 28)))).below hb12)
              clear hb12 hv hov
              have v0 := has_cell HZ12.out.play.var (o := 0) rfl
              have v1 := has_cell HZ12.out.play.var (o := 1) rfl
              have hv := HZ12.out.play.var.lt
              have o0 := has_cell HZ12.out.oldv (o := 0) rfl
              have o1 := has_cell HZ12.out.oldv (o := 1) rfl
              have ho := HZ12.out.oldv.lt
              go_wp2_with fail
              refine (agrees_any p2 bm2 W.heap.size R next next _ _ HZ12.out.copy HZ12.out.oldr (by omega)).mono ?_
              rintro e13 w13 ⟨rfl, hb13⟩
              have HZ13 := Lib.hid (HZ12.out.below hb13)
              clear hb13 v0 v1 hv o0 o1 ho
              have v0 := has_cell HZ13.out.play.var (o := 0) rfl
              have v1 := has_cell HZ13.out.play.var (o := 1) rfl
              have hv := HZ13.out.play.var.lt
              have hnx : nx ∉ nums R2 := fun q => by
                obtain ⟨x, hx, e⟩ := List.mem_map.1 q
                have := HT11.out.wf.num x hx; omega
              have Hnext := Lib.hid hnx
              have hTH := thas_any p bm bs R2 nx nx w13 HZ13.out.play.tree
              rw [decide_eq_false hnx] at hTH
              have HTH := Lib.hid hTH
              clear hTH hnx
              go_wp2_with fail
              refine HTH.out.mono ?_
              rintro e14 w14 ⟨rfl, hb14⟩
              have HZ14 := Lib.hid (HZ13.out.below hb14)
              clear hb14 v0 v1 hv
              have v0 := has_cell HZ14.out.play.var (o := 0) rfl
              have v1 := has_cell HZ14.out.play.var (o := 1) rfl
              have hv := HZ14.out.play.var.lt
              go_wp2_with fail
              refine (kids_out p bm bs R2 nx nx w14 HZ14.out.play.tree Hnext.out).mono ?_
              rintro e15 w15 ⟨rfl, hb15⟩
              have HZ15 := Lib.hid (HZ14.out.below hb15)
              clear hb15 v0 v1 hv
              have v0 := has_cell HZ15.out.play.var (o := 0) rfl
              have v1 := has_cell HZ15.out.play.var (o := 1) rfl
              have hv := HZ15.out.play.var.lt
              go_wp2_with fail
              refine (depth_out p bm bs R2 nx nx w15 HZ15.out.play.tree Hnext.out).mono ?_
              rintro e16 w16 ⟨rfl, hb16⟩
              have HZ16 := Lib.hid (HZ15.out.below hb16)
              clear hb16 v0 v1 hv
              go_wp2_with fail
              go_roundw
              case rel => unfold PlayI; exact ⟨i + 1, R2, nx, _, _, _, by go_num, by omega, by omega, HZ16.out.play, hx2', by omega⟩
              case measure => simp [intOf]; omega
      · have hd : decide (i < m ∧ i < 40) = false := by simp; omega
        rw [hd]
        have HCP := Lib.hid (copy_any p bm bs R next wr HS.out.tree (by omega))
        go_wp2_with fail
        refine HCP.out.mono ?_
        rintro e20 w20 ⟨p2, bm2, rfl, hT20, hp2, hm2, hb20⟩
        have HB20 := Lib.hid hb20
        have hD := tadd_any p2 bm2 wr.heap.size R next 0 0 w20 hT20 (by omega) hx1 (by omega)
        unfold AddPost at hD
        have HD := Lib.hid hD
        have hz20 := hb20.size
        clear hD hT20 hb20 g0 g1 hl0
        go_wp2_with fail
        refine HD.out.mono ?_
        rintro e21 w21 ⟨rfl, _, hs21⟩
        have HB21 := Lib.hid (HB20.out.trans (buts_below hs21 hz20 hp2 hm2))
        have HS21 := Lib.hid (HS.out.below HB21.out)
        clear hs21
        have g0 := has_cell HS21.out.var (o := 0) rfl
        have g1 := has_cell HS21.out.var (o := 1) rfl
        have hl0 := HS21.out.var.lt
        have hRD := radd_any _ R next 0 0 w21 HS21.out.ref HS21.out.tree.wf (by omega) hx1 (by omega)
        unfold RAddPost at hRD
        have HRD := Lib.hid hRD
        clear hRD
        obtain ⟨f2, hf2⟩ : ∃ f2, (addT R next 0 0).2.2 = f2 := ⟨_, rfl⟩
        obtain ⟨k2, hk2⟩ : ∃ k2, (addT R next 0 0).2.1 = k2 := ⟨_, rfl⟩
        rw [hf2, hk2]
        rw [hf2, hk2] at HRD
        go_wp2_with fail
        refine HRD.out.mono ?_
        rintro e22 w22 ⟨v22, rfl, hR22, hb22⟩
        obtain ⟨b22, o22, c22, rfl, _⟩ := hR22
        have HS22 := Lib.hid (HS21.out.below hb22)
        clear hb22 g0 g1 hl0
        have g0 := has_cell HS22.out.var (o := 0) rfl
        have g1 := has_cell HS22.out.var (o := 1) rfl
        have hl0 := HS22.out.var.lt
        have hov : Old w22 pm := hl0
        rw [show nextG next f2 = nextT next f2 from rfl] 
        generalize nextT next f2 = nx2
        generalize (addT R next 0 0).1 = R22
        go_wp2_with fail
        refine (agrees_any p bm bs R next next _ _ (HS22.out.tree.below (by (repeat' (first | (with_reducible exact Below.refl _ _) | (with_reducible assumption) | (with_reducible refine below_from_drew ?_) | (with_reducible refine Below.alloc ?_ ?_ _) | (with_reducible refine Below.drew ?_) | (with_reducible refine below_drewN ?_ _) | (with_reducible refine Below.setCell ?_ ?_ _) | (with_reducible refine below_via ?_ (by assumption) ?_) | (with_reducible refine below_ov ?_ ?_ _ _) | go_size)))) (HS22.out.ref.below (by (repeat' (first | (with_reducible exact Below.refl _ _) | (with_reducible assumption) | (with_reducible refine below_from_drew ?_) | (with_reducible refine Below.alloc ?_ ?_ _) | (with_reducible refine Below.drew ?_) | (with_reducible refine below_drewN ?_ _) | (with_reducible refine Below.setCell ?_ ?_ _) | (with_reducible refine below_via ?_ (by assumption) ?_) | (with_reducible refine below_ov ?_ ?_ _ _) | go_size)))) (by omega)).mono ?_
        rintro e23 w23 ⟨rfl, hb23⟩
        have HBE := Lib.hid (below_via (by have q := HS22.out.bel; (repeat' (first | (with_reducible exact Below.refl _ _) | (with_reducible assumption) | (with_reducible refine below_from_drew ?_) | (with_reducible refine Below.alloc ?_ ?_ _) | (with_reducible refine Below.drew ?_) | (with_reducible refine below_drewN ?_ _) | (with_reducible refine Below.setCell ?_ ?_ _) | (with_reducible refine below_via ?_ (by assumption) ?_) | (with_reducible refine below_ov ?_ ?_ _ _) | go_size)) : Below w.heap.size w (w22.alloc (.cells #[.slice (some ⟨b22, o22, none⟩) R22.length c22, .int .i64 nx2] 28))) hb23 (by have := HS22.out.bel.size; simp; omega))
        clear hb23
        go_wp2_with fail
        go_ret
        exact ⟨rfl, HBE.out⟩
theorem tplays_law (a : Option Addr) (cap : Nat) (xs : List ActZ) (w : World) (h : xs.length ≤ cap ∧ ActsIn w a xs) :
    Calls Try.prog 3 #[.slice a xs.length cap] w fun e w' => e = .returned (.bool true) ∧ Below w.heap.size w w' := tplays_any a cap xs w h.1 h.2
end Go.Proofs.Ytcpehmlkhmfmhaa
