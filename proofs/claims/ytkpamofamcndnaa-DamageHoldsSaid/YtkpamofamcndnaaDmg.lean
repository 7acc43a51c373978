/- package damage, by contract: New, Join, Add, Region, Coarse. -/
import Derived.Test.YtkpamofamcndnaaRegFar
namespace Go.Proofs.Ytkpamofamcndnaa
open Go.RowKit Go.Shelf
set_option linter.unusedSimpArgs false
set_option linter.unusedVariables false
-- below_from_drew
attribute [local go_sem] ov_cell_same ov_cell_other ov_frozen_same ov_frozen_other ov_size ov_setCell_same ov_setCell_other cell_alloc_old frozen_alloc_old setCell_alloc_old old_alloc old_ov old_drew old_drewN old_setCell
attribute [local go_sem ↓] run_max2 run_min2 eql_rect neq_rect

/-- Ints of two or more, when another block is written whose cell 1 is no int. -/
theorem intsAt_dmg {w w' : World} {q : Nat} {m : Int} {x : Option Addr} {y z : Nat} {co : Bool} {T : TypeId} {a : Option Addr} {xs : List Int} (h : IntsAt w a xs) (hx : 2 ≤ xs.length) (hq : Has w q #[.int .i64 m, .slice x y z, .bool co] T) (hb : But q w.heap.size w w') : IntsAt w' a xs := fun h0 => by
  obtain ⟨b, off, rfl, hb0, hc⟩ := h h0
  have hne : b ≠ q := fun e => by
    have k := hc 0 h0
    have k' := hc 1 (by omega)
    rw [e, hq.cells] at k k'
    rcases off with _ | _ | _ | o
    · simp at k'
    · simp at k
    · simp at k
    · simp at k
  exact ⟨b, off, rfl, Nat.lt_of_lt_of_le hb0 hb.size, fun i hi => (World.cell?_of_block (a := ⟨b, off + i, none⟩) (hb.block b hb0 hne)).trans (hc i hi)⟩
theorem bandsAt_dmg {w w' : World} {q : Nat} {m : Int} {x : Option Addr} {y z : Nat} {co : Bool} {T : TypeId} {a : Option Addr} {B : List BandZ} (h : BandsAt w a B) (hB : RegOk B) (hq : Has w q #[.int .i64 m, .slice x y z, .bool co] T) (hb : But q w.heap.size w w') : BandsAt w' a B := fun h0 => by
  obtain ⟨b, off, rfl, hb0, hc⟩ := h h0
  have hne : b ≠ q := fun e => by
    have k := (hc 0 h0).1
    have k' := (hc 0 h0).2.1
    rw [e, hq.cells] at k k'
    simp only [Nat.zero_mul, Nat.add_zero] at k k'
    rcases off with _ | _ | _ | o
    · simp at k'
    · simp at k
    · simp at k
    · simp at k
  have hcell : ∀ o, w'.cell? ⟨b, o, none⟩ = w.cell? ⟨b, o, none⟩ := fun o => World.cell?_of_block (a := ⟨b, o, none⟩) (hb.block b hb0 hne)
  refine ⟨b, off, rfl, Nat.lt_of_lt_of_le hb0 hb.size, fun i hi => ?_⟩
  obtain ⟨k0, k1, ea, ec, k2, k3, k4⟩ := hc i hi
  have hmem : B.getD i b0Z ∈ B := by
    have : B.getD i b0Z = B[i] := by simp [List.getD_eq_getElem?_getD, hi]
    rw [this]; exact List.getElem_mem _
  have hne := (okB_ne hB.ok _ hmem).1
  have hev := hB.even _ hmem
  have h2 : 2 ≤ (B.getD i b0Z).es.length := by
    have : 0 < (B.getD i b0Z).es.length := List.length_pos_iff.2 hne
    omega
  exact ⟨(hcell _).trans k0, (hcell _).trans k1, ea, ec, (hcell _).trans k2, k3, intsAt_dmg k4 h2 hq hb⟩
/-- What Join leaves: the region and the mark. -/
def joinB (m : Int) (B A : List BandZ) : List BandZ := if m < ((rectsZ (combZ orK B A)).length : Int) then oneQ (hullQ (rectsZ (combZ orK B A))) else combZ orK B A
def joinC (m : Int) (B A : List BandZ) (co : Bool) : Bool := if m < ((rectsZ (combZ orK B A)).length : Int) then true else co
theorem joinB_ok (m : Int) {B A : List BandZ} (hB : RegOk B) (hA : RegOk A) : RegOk (joinB m B A) := by
  unfold joinB
  split
  · exact oneQ_ok _
  · exact (hB.comb (keep := orK) rfl hA).1
def DmgAt (w : World) (p : Nat) (m : Int) (B : List BandZ) (co : Bool) : Prop := ∃ al ca, Has w p #[.int .i64 m, .slice al B.length ca, .bool co] 112 ∧ BandsAt w al B
theorem dmgAt_below {w w' : World} {p : Nat} {m : Int} {B : List BandZ} {co : Bool} (h : DmgAt w p m B co) (hb : Below w.heap.size w w') : DmgAt w' p m B co := by
  obtain ⟨al, ca, h1, h2⟩ := h
  exact ⟨al, ca, has_below hb h1, h2.below hb⟩
set_option maxRecDepth 100000 in
set_option maxHeartbeats 8000000 in
theorem dnew_any (m : Int) (w : World) (h1 : 1 ≤ m) (h2 : m ≤ 64) : Calls Try.prog 21 #[.int .i64 m] w fun e w' => e = .returned (.tuple #[.pointer (some ⟨w.heap.size, 0, none⟩), .int .i64 0]) ∧ DmgAt w' w.heap.size m [] false ∧ Below w.heap.size w w' := by
  go_enter Try.func21, Try.ntmps21
  go_wp2_with fail
  refine bodyPost_ret (by simp [results, Try.results21, go_sem]; try rfl) rfl ?_
  refine ⟨rfl, ⟨none, 0, has_new rfl, bandsAt_nil _ _⟩, by (repeat' (first | (with_reducible exact Below.refl _ _) | (with_reducible assumption) | (with_reducible refine below_from_drew ?_) | (with_reducible refine Below.alloc ?_ ?_ _) | (with_reducible refine Below.drew ?_) | (with_reducible refine below_drewN ?_ _) | (with_reducible refine Below.setCell ?_ ?_ _) | (with_reducible refine below_via ?_ (by assumption) ?_) | (with_reducible refine below_ov ?_ ?_ _ _) | go_size))⟩
set_option maxRecDepth 100000 in
set_option maxHeartbeats 8000000 in
theorem dregion_any (p : Nat) (m : Int) (B : List BandZ) (co : Bool) (w : World) (h : DmgAt w p m B co) : Calls Try.prog 24 #[.pointer (some ⟨p, 0, none⟩)] w fun e w' => ∃ al ca, e = .returned (.agg #[.slice al B.length ca]) ∧ BandsAt w' al B ∧ Below w.heap.size w w' := by
  obtain ⟨al, ca, hp, hB⟩ := h
  have fp := hp.cells; have lp := hp.lt
  have hob : Old w p := hp.lt
  have HB := Lib.hid hB
  clear hB
  go_enter Try.func24, Try.ntmps24
  go_wp2_with fail
  refine bodyPost_ret (by simp [results, Try.results24, go_sem]; try rfl) rfl ?_
  exact ⟨al, ca, rfl, HB.out.below (by (repeat' (first | (with_reducible exact Below.refl _ _) | (with_reducible assumption) | (with_reducible refine below_from_drew ?_) | (with_reducible refine Below.alloc ?_ ?_ _) | (with_reducible refine Below.drew ?_) | (with_reducible refine below_drewN ?_ _) | (with_reducible refine Below.setCell ?_ ?_ _) | (with_reducible refine below_via ?_ (by assumption) ?_) | (with_reducible refine below_ov ?_ ?_ _ _) | go_size))), by (repeat' (first | (with_reducible exact Below.refl _ _) | (with_reducible assumption) | (with_reducible refine below_from_drew ?_) | (with_reducible refine Below.alloc ?_ ?_ _) | (with_reducible refine Below.drew ?_) | (with_reducible refine below_drewN ?_ _) | (with_reducible refine Below.setCell ?_ ?_ _) | (with_reducible refine below_via ?_ (by assumption) ?_) | (with_reducible refine below_ov ?_ ?_ _ _) | go_size))⟩
set_option maxRecDepth 100000 in
set_option maxHeartbeats 8000000 in
theorem dcoarse_any (p : Nat) (m : Int) (B : List BandZ) (co : Bool) (w : World) (h : DmgAt w p m B co) : Calls Try.prog 29 #[.pointer (some ⟨p, 0, none⟩)] w fun e w' => e = .returned (.bool co) ∧ Below w.heap.size w w' := by
  obtain ⟨al, ca, hp, hB⟩ := h
  have fp := hp.cells; have lp := hp.lt
  have hob : Old w p := hp.lt
  clear hB
  go_enter Try.func29, Try.ntmps29
  go_wp2_with fail
  go_ret
  exact ⟨rfl, by (repeat' (first | (with_reducible exact Below.refl _ _) | (with_reducible assumption) | (with_reducible refine below_from_drew ?_) | (with_reducible refine Below.alloc ?_ ?_ _) | (with_reducible refine Below.drew ?_) | (with_reducible refine below_drewN ?_ _) | (with_reducible refine Below.setCell ?_ ?_ _) | (with_reducible refine below_via ?_ (by assumption) ?_) | (with_reducible refine below_ov ?_ ?_ _ _) | go_size))⟩
theorem but_ov2 {p b B : Nat} {u : World} {c c' d : Array Value} {T U : TypeId} : But p B (ov (ov u p c T) b d U) (ov (ov u p c' T) b d U) := by
  refine ⟨rfl, rfl, rfl, by simp only [ov_size]; exact Nat.le_refl _, fun k hk hn => ?_⟩
  have n1 : ¬ p = k := fun e => hn e.symm
  simp only [ov_heap, n1, false_and, if_false, ov_size]
theorem but_ov1 {p B : Nat} {u : World} {c c' : Array Value} {T : TypeId} : But p B (ov u p c T) (ov u p c' T) := by
  refine ⟨rfl, rfl, rfl, by simp only [ov_size]; exact Nat.le_refl _, fun k hk hn => ?_⟩
  have n1 : ¬ p = k := fun e => hn e.symm
  simp only [ov_heap, n1, false_and, if_false, ov_size]
set_option maxRecDepth 100000 in
set_option maxHeartbeats 8000000 in
theorem djoin_any (p n c : Nat) (a : Option Addr) (m : Int) (B A : List BandZ) (co : Bool) (w : World) (h : DmgAt w p m B co) (hB : RegOk B) (hA : RegOk A) (hn : A.length = n) (h1 : BandsAt w a A) (hl : (rectsZ (combZ orK B A)).length ≤ 1000000000000) :
    Calls Try.prog 60 #[.pointer (some ⟨p, 0, none⟩), .agg #[.slice a n c]] w fun e w' => e = .returned (.tuple #[]) ∧ DmgAt w' p m (joinB m B A) (joinC m B A co) ∧ But p w.heap.size w w' := by
  obtain ⟨al, ca, hp, hBA⟩ := h
  have hU := (hB.comb (keep := orK) rfl hA).1
  unfold joinB joinC
  have HOR := Lib.hid (fun u (hb : Below w.heap.size w u) => rgor_any al a _ ca _ c B A u hB hA rfl hn (hBA.below hb) (h1.below hb) _ rfl)
  generalize combZ orK B A = U at *
  obtain ⟨H0, H1, H2, H3, hH⟩ : ∃ H0 H1 H2 H3, hullQ (rectsZ U) = (H0, H1, H2, H3) := ⟨_, _, _, _, rfl⟩
  have HRC := Lib.hid (fun a c u (i : BandsAt u a U) => rects_any a _ c U u hU rfl i _ rfl hl)
  have HHU := Lib.hid (fun a c u (i : BandsAt u a U) => rhull_any a _ c U u hU rfl i hl _ _ _ _ hH)
  have HOF := Lib.hid (fun g u h => of_one g H0 H1 H2 H3 40 u h)
  rw [hH]
  have HU := Lib.hid hU
  have HV := Lib.hid (oneQ_ok (H0, H1, H2, H3))
  generalize oneQ (H0, H1, H2, H3) = V at *
  obtain ⟨rl, hrl⟩ : ∃ rl, (rectsZ U).length = rl := ⟨_, rfl⟩
  rw [hrl] at HRC
  rw [hrl]
  have hpl := hp.lt
  have hop : Old w p := hp.lt
  have fp := hp.cells
  obtain ⟨J, hJe⟩ : ∃ J, (if m < (rl : Int) then V else U) = J := ⟨_, rfl⟩
  obtain ⟨C, hCe⟩ : ∃ C, (if m < (rl : Int) then true else co) = C := ⟨_, rfl⟩
  rw [hJe, hCe]
  have HJE := Lib.hid hJe; have HCE := Lib.hid hCe
  clear hB hA hn hBA h1 hU hH hrl hl hJe hCe
  go_enter Try.func60, Try.ntmps60
  go_wp2_with fail
  refine region_ord [(0, 0), (1, 0), (2, 0), (3, 0), (4, 0), (5, 0), (6, 1), (7, 0), (8, 0), (9, 2)] (by kernel_rfl) (by kernel_rfl) (fun _ _ d _ _ h => by cases d <;> exact h) (fun hS => ?_)
  (refine wpG_read (v := ?_) rfl (.inl ⟨by rfl, fun wx hbx => ?_⟩) ?_; rotate_left; (focus (obtain ⟨cx0, fx0, zx0⟩ := bk hbx (p) (by first | omega | (simp; done) | (simp; omega)); obtain ⟨cx1, fx1, zx1⟩ := bk hbx (w.heap.size) (by first | omega | (simp; done) | (simp; omega)); go_simp; (try go_bits); (try with_reducible rfl))); try simp only [Act.put, List.setIfInBounds_toArray, List.set_cons_zero, List.set_cons_succ])
  (refine wpG_read (v := ?_) rfl (.inl ⟨by rfl, fun wx hbx => ?_⟩) ?_; rotate_left; (focus (obtain ⟨cx0, fx0, zx0⟩ := bk hbx (p) (by first | omega | (simp; done) | (simp; omega)); obtain ⟨cx1, fx1, zx1⟩ := bk hbx (w.heap.size) (by first | omega | (simp; done) | (simp; omega)); go_simp; (try go_bits); (try with_reducible rfl))); try simp only [Act.put, List.setIfInBounds_toArray, List.set_cons_zero, List.set_cons_succ])
  (refine wpG_read (v := ?_) rfl (.inl ⟨by rfl, fun wx hbx => ?_⟩) ?_; rotate_left; (focus (obtain ⟨cx0, fx0, zx0⟩ := bk hbx (p) (by first | omega | (simp; done) | (simp; omega)); obtain ⟨cx1, fx1, zx1⟩ := bk hbx (w.heap.size) (by first | omega | (simp; done) | (simp; omega)); go_simp; (try go_bits); (try with_reducible rfl))); try simp only [Act.put, List.setIfInBounds_toArray, List.set_cons_zero, List.set_cons_succ])
  (refine wpG_read (v := ?_) rfl (.inl ⟨by rfl, fun wx hbx => ?_⟩) ?_; rotate_left; (focus (obtain ⟨cx0, fx0, zx0⟩ := bk hbx (p) (by first | omega | (simp; done) | (simp; omega)); obtain ⟨cx1, fx1, zx1⟩ := bk hbx (w.heap.size) (by first | omega | (simp; done) | (simp; omega)); go_simp; (try go_bits); (try with_reducible rfl))); try simp only [Act.put, List.setIfInBounds_toArray, List.set_cons_zero, List.set_cons_succ])
  (refine wpG_read (v := ?_) rfl (.inl ⟨by rfl, fun wx hbx => ?_⟩) ?_; rotate_left; (focus (obtain ⟨cx0, fx0, zx0⟩ := bk hbx (p) (by first | omega | (simp; done) | (simp; omega)); obtain ⟨cx1, fx1, zx1⟩ := bk hbx (w.heap.size) (by first | omega | (simp; done) | (simp; omega)); go_simp; (try go_bits); (try with_reducible rfl))); try simp only [Act.put, List.setIfInBounds_toArray, List.set_cons_zero, List.set_cons_succ])
  (refine wpG_read (v := ?_) rfl (.inl ⟨by rfl, fun wx hbx => ?_⟩) ?_; rotate_left; (focus (obtain ⟨cx0, fx0, zx0⟩ := bk hbx (p) (by first | omega | (simp; done) | (simp; omega)); obtain ⟨cx1, fx1, zx1⟩ := bk hbx (w.heap.size) (by first | omega | (simp; done) | (simp; omega)); go_simp; (try go_bits); (try with_reducible rfl))); try simp only [Act.put, List.setIfInBounds_toArray, List.set_cons_zero, List.set_cons_succ])
  (refine wpG_make rfl (fun K hK => ?_); go_simp; (go_at_call 17; (with_reducible refine (HOR.out _ (by (repeat' (first | (with_reducible exact Below.refl _ _) | (with_reducible assumption) | (with_reducible refine below_from_drew ?_) | (with_reducible refine Below.alloc ?_ ?_ _) | (with_reducible refine Below.drew ?_) | (with_reducible refine below_drewN ?_ _) | (with_reducible refine Below.setCell ?_ ?_ _) | (with_reducible refine below_via ?_ (by assumption) ?_) | (with_reducible refine below_ov ?_ ?_ _ _) | go_size)))).mono ?_); rintro e w1 ⟨x1, y1, rfl, i1, hb⟩; refine Exists.elim (after2 (w := w) (b0 := p) (cs0 := ?_) (T0 := ?_) (b1 := w.heap.size) (cs1 := ?_) (T1 := ?_) hb ?_ ?_ ?_) ?_; rotate_left 4; (focus ((repeat' (first | (with_reducible exact Below.refl _ _) | (with_reducible assumption) | (with_reducible refine below_from_drew ?_) | (with_reducible refine Below.alloc ?_ ?_ _) | (with_reducible refine Below.drew ?_) | (with_reducible refine below_drewN ?_ _) | (with_reducible refine Below.setCell ?_ ?_ _) | (with_reducible refine below_via ?_ (by assumption) ?_) | (with_reducible refine below_ov ?_ ?_ _ _) | go_size)); done)); (focus ((repeat' (first | (with_reducible refine has_drew ?_) | (with_reducible refine has_drewN ?_) | (with_reducible refine has_new ?_; (first | (with_reducible rfl) | omega | (simp; done) | (simp; omega))) | (with_reducible refine has_ov_same ?_; (first | (with_reducible rfl) | omega | (simp; done) | (simp; omega))) | (with_reducible refine has_alloc ?_) | (with_reducible refine has_ov_other ?_ ?_; (focus (first | (with_reducible rfl) | omega | (simp; done) | (simp; omega)))) | (with_reducible assumption))); done)); (focus ((repeat' (first | (with_reducible refine has_drew ?_) | (with_reducible refine has_drewN ?_) | (with_reducible refine has_new ?_; (first | (with_reducible rfl) | omega | (simp; done) | (simp; omega))) | (with_reducible refine has_ov_same ?_; (first | (with_reducible rfl) | omega | (simp; done) | (simp; omega))) | (with_reducible refine has_alloc ?_) | (with_reducible refine has_ov_other ?_ ?_; (focus (first | (with_reducible rfl) | omega | (simp; done) | (simp; omega)))) | (with_reducible assumption))); done)); rintro u1 ⟨rfl, hB, hz, z0, o0, z1, o1⟩; (try simp only [World.size_alloc, World.size_setCell, World.size_drew, ov_size] at hz)); (try simp only []); refine hK _ _ ?_ (fun hS2 => ?_); (focus ((repeat' (first | (with_reducible exact Below.refl _ _) | (with_reducible assumption) | (with_reducible refine below_from_drew ?_) | (with_reducible refine Below.alloc ?_ ?_ _) | (with_reducible refine Below.drew ?_) | (with_reducible refine below_drewN ?_ _) | (with_reducible refine Below.setCell ?_ ?_ _) | (with_reducible refine below_via ?_ (by assumption) ?_) | (with_reducible refine below_ov ?_ ?_ _ _) | go_size)); done)); clear hK K hS; have hS := hS2; clear hS2; (try clear hb); try simp only [Act.put, List.setIfInBounds_toArray, List.set_cons_zero, List.set_cons_succ])
  (refine wpG_read (v := ?_) rfl (.inl ⟨by rfl, fun wx hbx => ?_⟩) ?_; rotate_left; (focus (obtain ⟨cx0, fx0, zx0⟩ := bk hbx (p) (by first | omega | (simp; done) | (simp; omega)); obtain ⟨cx1, fx1, zx1⟩ := bk hbx (w.heap.size) (by first | omega | (simp; done) | (simp; omega)); go_simp; (try go_bits); (try with_reducible rfl))); try simp only [Act.put, List.setIfInBounds_toArray, List.set_cons_zero, List.set_cons_succ])
  (refine wpG_read (v := ?_) rfl (.inl ⟨by rfl, fun wx hbx => ?_⟩) ?_; rotate_left; (focus (obtain ⟨cx0, fx0, zx0⟩ := bk hbx (p) (by first | omega | (simp; done) | (simp; omega)); obtain ⟨cx1, fx1, zx1⟩ := bk hbx (w.heap.size) (by first | omega | (simp; done) | (simp; omega)); go_simp; (try go_bits); (try with_reducible rfl))); try simp only [Act.put, List.setIfInBounds_toArray, List.set_cons_zero, List.set_cons_succ])
  (refine wpG_late rfl (fun K hK => ?_); go_simp; (try simp only []); (try simp only []); refine hK _ _ ?_; clear hK K; try simp only [Act.put, List.setIfInBounds_toArray, List.set_cons_zero, List.set_cons_succ])
  refine wpG_nil ?_
  have hbu : But p w.heap.size w u1 := .of hB
  refine name_world (f := Exit.then _ _ _ _) (fun W hW => ?_)
  have hHp : Has W p #[.int .i64 m, .slice x1 U.length y1, .bool co] 112 := by rw [hW]; (repeat' (first | (with_reducible refine has_drew ?_) | (with_reducible refine has_drewN ?_) | (with_reducible refine has_new ?_; (first | (with_reducible rfl) | omega | (simp; done) | (simp; omega))) | (with_reducible refine has_ov_same ?_; (first | (with_reducible rfl) | omega | (simp; done) | (simp; omega))) | (with_reducible refine has_alloc ?_) | (with_reducible refine has_ov_other ?_ ?_; (focus (first | (with_reducible rfl) | omega | (simp; done) | (simp; omega)))) | (with_reducible assumption)))
  have hBW : But p w.heap.size w W := by rw [hW]; (repeat' (first | (with_reducible assumption) | (with_reducible exact But.refl _ _ _) | (with_reducible refine But.alloc ?_ ?_ _) | (with_reducible refine But.drew ?_) | (with_reducible refine But.ovs ?_ _ _) | (with_reducible refine But.ovn ?_ ?_ _ _) | go_size | omega))
  have hJ : BandsAt W x1 U := by
    rw [hW]
    refine bandsAt_dmg i1 HU.out (q := p) (T := 112) (m := m) (x := al) (y := B.length) (z := ca) (co := co) (by (repeat' (first | (with_reducible refine has_drew ?_) | (with_reducible refine has_drewN ?_) | (with_reducible refine has_new ?_; (first | (with_reducible rfl) | omega | (simp; done) | (simp; omega))) | (with_reducible refine has_ov_same ?_; (first | (with_reducible rfl) | omega | (simp; done) | (simp; omega))) | (with_reducible refine has_alloc ?_) | (with_reducible refine has_ov_other ?_ ?_; (focus (first | (with_reducible rfl) | omega | (simp; done) | (simp; omega)))) | (with_reducible assumption)))) but_ov2
  have HJ := Lib.hid hJ; have HBW := Lib.hid hBW
  have hzW := hBW.size
  clear hW i1 hB z0 o0 z1 o1 hz hS hBW hJ hbu hpl hop fp
  have hpl := hHp.lt; have hop : Old W p := hHp.lt; have fp := hHp.cells
  go_wp2_with fail
  refine region_ord [(0, 0), (1, 0), (2, 0), (3, 0), (6, 0), (7, 0), (8, 0), (9, 0), (4, 1), (5, 0), (10, 0)] (by kernel_rfl) (by kernel_rfl) (fun _ _ d _ _ h => by cases d <;> exact h) (fun hS => ?_)
  (refine wpG_read (v := ?_) rfl (.inl ⟨by rfl, fun wx hbx => ?_⟩) ?_; rotate_left; (focus (obtain ⟨cx0, fx0, zx0⟩ := bk hbx (p) (by first | omega | (simp; done) | (simp; omega)); go_simp; (try go_bits); (try with_reducible rfl))); try simp only [Act.put, List.setIfInBounds_toArray, List.set_cons_zero, List.set_cons_succ])
  (refine wpG_read (v := ?_) rfl (.inl ⟨by rfl, fun wx hbx => ?_⟩) ?_; rotate_left; (focus (obtain ⟨cx0, fx0, zx0⟩ := bk hbx (p) (by first | omega | (simp; done) | (simp; omega)); go_simp; (try go_bits); (try with_reducible rfl))); try simp only [Act.put, List.setIfInBounds_toArray, List.set_cons_zero, List.set_cons_succ])
  (refine wpG_read (v := ?_) rfl (.inl ⟨by rfl, fun wx hbx => ?_⟩) ?_; rotate_left; (focus (obtain ⟨cx0, fx0, zx0⟩ := bk hbx (p) (by first | omega | (simp; done) | (simp; omega)); go_simp; (try go_bits); (try with_reducible rfl))); try simp only [Act.put, List.setIfInBounds_toArray, List.set_cons_zero, List.set_cons_succ])
  (refine wpG_read (v := ?_) rfl (.inl ⟨by rfl, fun wx hbx => ?_⟩) ?_; rotate_left; (focus (obtain ⟨cx0, fx0, zx0⟩ := bk hbx (p) (by first | omega | (simp; done) | (simp; omega)); go_simp; (try go_bits); (try with_reducible rfl))); try simp only [Act.put, List.setIfInBounds_toArray, List.set_cons_zero, List.set_cons_succ])
  (refine wpG_read (v := ?_) rfl (.inl ⟨by rfl, fun wx hbx => ?_⟩) ?_; rotate_left; (focus (obtain ⟨cx0, fx0, zx0⟩ := bk hbx (p) (by first | omega | (simp; done) | (simp; omega)); go_simp; (try go_bits); (try with_reducible rfl))); try simp only [Act.put, List.setIfInBounds_toArray, List.set_cons_zero, List.set_cons_succ])
  (refine wpG_read (v := ?_) rfl (.inl ⟨by rfl, fun wx hbx => ?_⟩) ?_; rotate_left; (focus (obtain ⟨cx0, fx0, zx0⟩ := bk hbx (p) (by first | omega | (simp; done) | (simp; omega)); go_simp; (try go_bits); (try with_reducible rfl))); try simp only [Act.put, List.setIfInBounds_toArray, List.set_cons_zero, List.set_cons_succ])
  (refine wpG_read (v := ?_) rfl (.inl ⟨by rfl, fun wx hbx => ?_⟩) ?_; rotate_left; (focus (obtain ⟨cx0, fx0, zx0⟩ := bk hbx (p) (by first | omega | (simp; done) | (simp; omega)); go_simp; (try go_bits); (try with_reducible rfl))); try simp only [Act.put, List.setIfInBounds_toArray, List.set_cons_zero, List.set_cons_succ])
  (refine wpG_read (v := ?_) rfl (.inl ⟨by rfl, fun wx hbx => ?_⟩) ?_; rotate_left; (focus (obtain ⟨cx0, fx0, zx0⟩ := bk hbx (p) (by first | omega | (simp; done) | (simp; omega)); go_simp; (try go_bits); (try with_reducible rfl))); try simp only [Act.put, List.setIfInBounds_toArray, List.set_cons_zero, List.set_cons_succ])
  (refine wpG_make rfl (fun K hK => ?_); go_simp; (go_at_call 26; (with_reducible refine (HRC.out _ _ _ (HJ.out.below (by (repeat' (first | (with_reducible exact Below.refl _ _) | (with_reducible assumption) | (with_reducible refine below_from_drew ?_) | (with_reducible refine Below.alloc ?_ ?_ _) | (with_reducible refine Below.drew ?_) | (with_reducible refine below_drewN ?_ _) | (with_reducible refine Below.setCell ?_ ?_ _) | (with_reducible refine below_via ?_ (by assumption) ?_) | (with_reducible refine below_ov ?_ ?_ _ _) | go_size))))).mono ?_); rintro e w1 ⟨x2, y2, rfl, i2, hb⟩; refine Exists.elim (after1 (w := W) (b0 := p) (cs0 := ?_) (T0 := ?_) hb ?_ ?_) ?_; rotate_left 2; (focus ((repeat' (first | (with_reducible exact Below.refl _ _) | (with_reducible assumption) | (with_reducible refine below_from_drew ?_) | (with_reducible refine Below.alloc ?_ ?_ _) | (with_reducible refine Below.drew ?_) | (with_reducible refine below_drewN ?_ _) | (with_reducible refine Below.setCell ?_ ?_ _) | (with_reducible refine below_via ?_ (by assumption) ?_) | (with_reducible refine below_ov ?_ ?_ _ _) | go_size)); done)); (focus ((repeat' (first | (with_reducible refine has_drew ?_) | (with_reducible refine has_drewN ?_) | (with_reducible refine has_new ?_; (first | (with_reducible rfl) | omega | (simp; done) | (simp; omega))) | (with_reducible refine has_ov_same ?_; (first | (with_reducible rfl) | omega | (simp; done) | (simp; omega))) | (with_reducible refine has_alloc ?_) | (with_reducible refine has_ov_other ?_ ?_; (focus (first | (with_reducible rfl) | omega | (simp; done) | (simp; omega)))) | (with_reducible assumption))); done)); rintro u2 ⟨rfl, hB, hz, z0, o0⟩; (try simp only [World.size_alloc, World.size_setCell, World.size_drew, ov_size] at hz)); (try simp only []); refine hK _ _ ?_ (fun hS2 => ?_); (focus ((repeat' (first | (with_reducible exact Below.refl _ _) | (with_reducible assumption) | (with_reducible refine below_from_drew ?_) | (with_reducible refine Below.alloc ?_ ?_ _) | (with_reducible refine Below.drew ?_) | (with_reducible refine below_drewN ?_ _) | (with_reducible refine Below.setCell ?_ ?_ _) | (with_reducible refine below_via ?_ (by assumption) ?_) | (with_reducible refine below_ov ?_ ?_ _ _) | go_size)); done)); clear hK K hS; have hS := hS2; clear hS2; (try clear hb); try simp only [Act.put, List.setIfInBounds_toArray, List.set_cons_zero, List.set_cons_succ])
  (refine wpG_read (v := ?_) rfl (.inl ⟨by rfl, fun wx hbx => ?_⟩) ?_; rotate_left; (focus (obtain ⟨cx0, fx0, zx0⟩ := bk hbx (p) (by first | omega | (simp; done) | (simp; omega)); go_simp; (try go_bits); (try with_reducible rfl))); try simp only [Act.put, List.setIfInBounds_toArray, List.set_cons_zero, List.set_cons_succ])
  (refine wpG_read (v := ?_) rfl (.inl ⟨by rfl, fun wx hbx => ?_⟩) ?_; rotate_left; (focus (obtain ⟨cx0, fx0, zx0⟩ := bk hbx (p) (by first | omega | (simp; done) | (simp; omega)); go_simp; (try go_bits); (try with_reducible rfl))); try simp only [Act.put, List.setIfInBounds_toArray, List.set_cons_zero, List.set_cons_succ])
  refine wpG_nil ?_
  have hX : Below W.heap.size W (ov u2 p #[.int .i64 m, .slice x1 U.length y1, .bool co] 112) := ⟨hS.os, hS.tape, hS.output, hS.size, hS.block⟩
  clear hB i2 z0 o0 hz hS fp hpl hop
  refine name_world (f := Exit.then _ _ _ _) (fun V2 hV2 => ?_)
  rw [← hV2] at hX
  have hHp2 := has_below hX hHp
  have hBV := HBW.out.then hX hzW
  have hJ2 := HJ.out.below hX
  have hzV := hBV.size
  have hpl := hHp2.lt; have hop : Old V2 p := hHp2.lt; have fp := hHp2.cells
  have HJ2 := Lib.hid hJ2; have HBV := Lib.hid hBV
  clear hV2 hX hHp HJ HBW hzW hBV hJ2 hp HOR HRC
  by_cases hm : m < (rl : Int)
  · have e1 := HJE.out; have e2 := HCE.out
    rw [if_pos hm] at e1 e2
    subst e1 e2
    go_wp2_with (first | (go_at_call 27; (with_reducible refine (HHU.out _ _ _ (HJ2.out.below (by (repeat' (first | (with_reducible exact Below.refl _ _) | (with_reducible assumption) | (with_reducible refine below_from_drew ?_) | (with_reducible refine Below.alloc ?_ ?_ _) | (with_reducible refine Below.drew ?_) | (with_reducible refine below_drewN ?_ _) | (with_reducible refine Below.setCell ?_ ?_ _) | (with_reducible refine below_via ?_ (by assumption) ?_) | (with_reducible refine below_ov ?_ ?_ _ _) | go_size))))).mono ?_); rintro e w1 ⟨rfl, hb⟩; refine Exists.elim (after1 (w := V2) (b0 := p) (cs0 := ?_) (T0 := ?_) hb ?_ ?_) ?_; rotate_left 2; (focus ((repeat' (first | (with_reducible exact Below.refl _ _) | (with_reducible assumption) | (with_reducible refine below_from_drew ?_) | (with_reducible refine Below.alloc ?_ ?_ _) | (with_reducible refine Below.drew ?_) | (with_reducible refine below_drewN ?_ _) | (with_reducible refine Below.setCell ?_ ?_ _) | (with_reducible refine below_via ?_ (by assumption) ?_) | (with_reducible refine below_ov ?_ ?_ _ _) | go_size)); done)); (focus ((repeat' (first | (with_reducible refine has_drew ?_) | (with_reducible refine has_drewN ?_) | (with_reducible refine has_new ?_; (first | (with_reducible rfl) | omega | (simp; done) | (simp; omega))) | (with_reducible refine has_ov_same ?_; (first | (with_reducible rfl) | omega | (simp; done) | (simp; omega))) | (with_reducible refine has_alloc ?_) | (with_reducible refine has_ov_other ?_ ?_; (focus (first | (with_reducible rfl) | omega | (simp; done) | (simp; omega)))) | (with_reducible assumption))); done)); rintro u3 ⟨rfl, hB, hz, z0, o0⟩; (try simp only [World.size_alloc, World.size_setCell, World.size_drew, ov_size] at hz)) | (go_at_call 11; (with_reducible refine (HOF.out _ _ (by (repeat' (first | (with_reducible refine has_drew ?_) | (with_reducible refine has_drewN ?_) | (with_reducible refine has_new ?_; (first | (with_reducible rfl) | omega | (simp; done) | (simp; omega))) | (with_reducible refine has_ov_same ?_; (first | (with_reducible rfl) | omega | (simp; done) | (simp; omega))) | (with_reducible refine has_alloc ?_) | (with_reducible refine has_ov_other ?_ ?_; (focus (first | (with_reducible rfl) | omega | (simp; done) | (simp; omega)))) | (with_reducible assumption))))).mono ?_); rintro e w1 ⟨x3, y3, rfl, i3, hb⟩; refine Exists.elim (after1 (w := V2) (b0 := p) (cs0 := ?_) (T0 := ?_) hb ?_ ?_) ?_; rotate_left 2; (focus ((repeat' (first | (with_reducible exact Below.refl _ _) | (with_reducible assumption) | (with_reducible refine below_from_drew ?_) | (with_reducible refine Below.alloc ?_ ?_ _) | (with_reducible refine Below.drew ?_) | (with_reducible refine below_drewN ?_ _) | (with_reducible refine Below.setCell ?_ ?_ _) | (with_reducible refine below_via ?_ (by assumption) ?_) | (with_reducible refine below_ov ?_ ?_ _ _) | go_size)); done)); (focus ((repeat' (first | (with_reducible refine has_drew ?_) | (with_reducible refine has_drewN ?_) | (with_reducible refine has_new ?_; (first | (with_reducible rfl) | omega | (simp; done) | (simp; omega))) | (with_reducible refine has_ov_same ?_; (first | (with_reducible rfl) | omega | (simp; done) | (simp; omega))) | (with_reducible refine has_alloc ?_) | (with_reducible refine has_ov_other ?_ ?_; (focus (first | (with_reducible rfl) | omega | (simp; done) | (simp; omega)))) | (with_reducible assumption))); done)); rintro u4 ⟨rfl, hB, hz, z0, o0⟩; (try simp only [World.size_alloc, World.size_setCell, World.size_drew, ov_size] at hz)))
    have hX : Below V2.heap.size V2 u4 := hB
    have hBU : But p w.heap.size w u4 := HBV.out.then hX hzV
    have hJ3 : BandsAt (ov u4 p #[.int .i64 m, .slice x3 V.length y3, .bool true] 112) x3 V := bandsAt_dmg i3 HV.out (q := p) (T := 112) (m := m) (x := x1) (y := U.length) (z := y1) (co := co) (has_ov_same z0) but_ov1
    have hH3 : Has (ov u4 p #[.int .i64 m, .slice x3 V.length y3, .bool true] 112) p #[.int .i64 m, .slice x3 V.length y3, .bool true] 112 := has_ov_same z0
    have hB3 := hBU.ovs #[.int .i64 m, .slice x3 V.length y3, .bool true] 112
    go_end0
    exact ⟨rfl, ⟨_, _, hH3, hJ3⟩, hB3⟩
  · have e1 := HJE.out; have e2 := HCE.out
    rw [if_neg hm] at e1 e2
    subst e1 e2
    go_wp2_with fail
    go_end0
    exact ⟨rfl, ⟨_, _, hHp2, HJ2.out⟩, HBV.out⟩
set_option maxRecDepth 100000 in
set_option maxHeartbeats 8000000 in
theorem dadd_any (p : Nat) (m : Int) (B : List BandZ) (co : Bool) (a b c d : Int) (w : World) (h : DmgAt w p m B co) (hB : RegOk B) (hl : (rectsZ (combZ orK B (oneQ (a, b, c, d)))).length ≤ 1000000000000) :
    Calls Try.prog 23 #[.pointer (some ⟨p, 0, none⟩), (.agg #[.int .i64 (a), .int .i64 (b), .int .i64 (c), .int .i64 (d)])] w fun e w' => e = .returned (.tuple #[]) ∧ DmgAt w' p m (joinB m B (oneQ (a, b, c, d))) (joinC m B (oneQ (a, b, c, d)) co) ∧ But p w.heap.size w w' := by
  have HOF := Lib.hid (fun g u h => of_one g a b c d 40 u h)
  have hokV := oneQ_ok (a, b, c, d)
  generalize oneQ (a, b, c, d) = V at *
  have HJN := Lib.hid (fun x y u (hd : DmgAt u p m B co) (i : BandsAt u x V) => djoin_any p _ y x m B V co u hd hB hokV rfl i hl)
  generalize joinB m B V = J at *
  generalize joinC m B V co = C at *
  have HD := Lib.hid h
  have hlp : p < w.heap.size := by obtain ⟨al, ca, k1, k2⟩ := h; exact k1.lt
  clear h hB hl hokV
  go_enter Try.func23, Try.ntmps23
  go_wp2_with (go_at_call 11; (with_reducible refine (HOF.out _ _ (by (repeat' (first | (with_reducible refine has_drew ?_) | (with_reducible refine has_drewN ?_) | (with_reducible refine has_new ?_; (first | (with_reducible rfl) | omega | (simp; done) | (simp; omega))) | (with_reducible refine has_ov_same ?_; (first | (with_reducible rfl) | omega | (simp; done) | (simp; omega))) | (with_reducible refine has_alloc ?_) | (with_reducible refine has_ov_other ?_ ?_; (focus (first | (with_reducible rfl) | omega | (simp; done) | (simp; omega)))) | (with_reducible assumption))))).mono ?_); rintro e w1 ⟨x1, y1, rfl, i1, hb⟩; refine Exists.elim (after1 (w := w) (b0 := w.heap.size) (cs0 := ?_) (T0 := ?_) hb ?_ ?_) ?_; rotate_left 2; (focus ((repeat' (first | (with_reducible exact Below.refl _ _) | (with_reducible assumption) | (with_reducible refine below_from_drew ?_) | (with_reducible refine Below.alloc ?_ ?_ _) | (with_reducible refine Below.drew ?_) | (with_reducible refine below_drewN ?_ _) | (with_reducible refine Below.setCell ?_ ?_ _) | (with_reducible refine below_via ?_ (by assumption) ?_) | (with_reducible refine below_ov ?_ ?_ _ _) | go_size)); done)); (focus ((repeat' (first | (with_reducible refine has_drew ?_) | (with_reducible refine has_drewN ?_) | (with_reducible refine has_new ?_; (first | (with_reducible rfl) | omega | (simp; done) | (simp; omega))) | (with_reducible refine has_ov_same ?_; (first | (with_reducible rfl) | omega | (simp; done) | (simp; omega))) | (with_reducible refine has_alloc ?_) | (with_reducible refine has_ov_other ?_ ?_; (focus (first | (with_reducible rfl) | omega | (simp; done) | (simp; omega)))) | (with_reducible assumption))); done)); rintro u1 ⟨rfl, hB, hz, z0, o0⟩; (try simp only [World.size_alloc, World.size_setCell, World.size_drew, ov_size] at hz))
  refine (HJN.out _ _ _ (dmgAt_below HD.out (by (repeat' (first | (with_reducible exact Below.refl _ _) | (with_reducible assumption) | (with_reducible refine below_from_drew ?_) | (with_reducible refine Below.alloc ?_ ?_ _) | (with_reducible refine Below.drew ?_) | (with_reducible refine below_drewN ?_ _) | (with_reducible refine Below.setCell ?_ ?_ _) | (with_reducible refine below_via ?_ (by assumption) ?_) | (with_reducible refine below_ov ?_ ?_ _ _) | go_size)))) i1).mono ?_
  rintro e w1 ⟨rfl, hD, hBt⟩
  have hb1 : Below w.heap.size w (ov u1 w.heap.size #[.int .i64 a, .int .i64 b, .int .i64 c, .int .i64 d] 40) := by (repeat' (first | (with_reducible exact Below.refl _ _) | (with_reducible assumption) | (with_reducible refine below_from_drew ?_) | (with_reducible refine Below.alloc ?_ ?_ _) | (with_reducible refine Below.drew ?_) | (with_reducible refine below_drewN ?_ _) | (with_reducible refine Below.setCell ?_ ?_ _) | (with_reducible refine below_via ?_ (by assumption) ?_) | (with_reducible refine below_ov ?_ ?_ _ _) | go_size))
  have hB2 : But p w.heap.size w w1 := (But.of hb1).trans ⟨hBt.os, hBt.tape, hBt.output, hBt.size, fun k hk hn => hBt.block k (Nat.lt_of_lt_of_le hk hb1.size) hn⟩
  clear hBt hb1 i1 hb hB z0 o0 hz
  go_wp2_with fail
  go_end0
  exact ⟨rfl, hD, hB2⟩
end Go.Proofs.Ytkpamofamcndnaa
