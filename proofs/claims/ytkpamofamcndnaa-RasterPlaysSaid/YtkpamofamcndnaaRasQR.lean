/- clapboardlaw28.RasterPlays: the walk. RasterPlays' walk, its arguments in order. -/
import Derived.Test.YtkpamofamcndnaaRasPL
namespace Go.Proofs.Ytkpamofamcndnaa
open Go.RowKit Go.Shelf
set_option linter.unusedSimpArgs false
set_option linter.unusedVariables false
-- below_from_drew
attribute [local go_sem] ov_cell_same ov_cell_other ov_frozen_same ov_frozen_other ov_size ov_setCell_same ov_setCell_other cell_alloc_old frozen_alloc_old setCell_alloc_old old_alloc old_ov old_drew old_drewN old_setCell
attribute [local go_sem ↓] run_max2 run_min2 eql_rect eq_nil8
theorem told28_any (a b c d : Int) (w : World) : Calls Try.prog 41 #[(.agg #[.int .i64 (a), .int .i64 (b), .int .i64 (c), .int .i64 (d)])] w fun e w' => e = .returned (.agg #[.int .i64 (a), .int .i64 (b), .int .i64 (c), .int .i64 (d)]) ∧ Below w.heap.size w w' := by
  go_enter Try.func41, Try.ntmps41
  go_wp2_with fail
  refine bodyPost_ret (by simp [results, Try.results41, go_sem]; try rfl) rfl ?_
  exact ⟨rfl, by (repeat' (first | (with_reducible exact Below.refl _ _) | (with_reducible assumption) | (with_reducible refine below_from_drew ?_) | (with_reducible refine Below.alloc ?_ ?_ _) | (with_reducible refine Below.drew ?_) | (with_reducible refine below_drewN ?_ _) | (with_reducible refine Below.setCell ?_ ?_ _) | (with_reducible refine below_via ?_ (by assumption) ?_) | (with_reducible refine below_ov ?_ ?_ _ _) | go_size))⟩
theorem PicT.buts {w w1 : World} {S : Nat → Prop} {n : Nat} {a : Option Addr} {W H : Nat} {f : Nat → Nat → Int} (h : PicT w a W H f) (hb : ButS S n w w1) (hn : n = w.heap.size) (hS : ∀ b cs, S b → Has w b cs 3 → False) : PicT w1 a W H f := fun h0 => by
  obtain ⟨b, cs, e, h1, h2⟩ := h h0
  exact ⟨b, cs, e, hb.has h1 (hn ▸ h1.lt) (fun q => hS b cs q h1), h2⟩
/-- Copy, in the form that a region of any order wants. -/
structure CopyAt (n : Nat) (L : ImgL) (f : Nat → Nat → Int) (w : World) (M : ImgL) : Prop where
  W : M.W = L.W
  H : M.H = L.H
  img : ImgAt w M f
  new : M.New n
theorem CopyAt.below {n : Nat} {L M : ImgL} {f : Nat → Nat → Int} {w w1 : World} (h : CopyAt n L f w M) (hb : Below w.heap.size w w1) : CopyAt n L f w1 M := ⟨h.W, h.H, h.img.below hb, h.new⟩
theorem copy28 (L : ImgL) (f : Nat → Nat → Int) (n : Nat) (w : World) (h : ImgAt w L f) (hn : n ≤ w.heap.size) :
    Calls Try.prog 39 #[ptrTo L.p] w fun e w' => ∃ M, e = .returned (ptrTo M.p) ∧ CopyAt n L f w' M ∧ Below w.heap.size w w' :=
  (copy8_any L f w h).mono fun e w' ⟨M, ⟨he, h1, h2, h3, h4⟩, hb⟩ => ⟨M, he, ⟨h1, h2, h3, ⟨Nat.le_trans hn h4.1, fun b q => Nat.le_trans hn (h4.2 b q)⟩⟩, hb⟩
/-- An image stands where a block of another type is written. -/
theorem ImgAt.store {w : World} {L : ImgL} {f : Nat → Nat → Int} {p : Nat} {cs cs' : Array Value} {T T' : TypeId} (h : ImgAt w L f) (hp : Has w p cs T) (h1 : T ≠ 121) (h2 : T ≠ 122) (h3 : T ≠ 5) : ImgAt (ov w p cs' T') L f :=
  ⟨h.small, has_ov_other (fun e => h1 (has_type hp (e ▸ h.img))) h.img, h.cap, fun h0 => by
    obtain ⟨rb, c, e, k1, k2⟩ := h.rows h0
    exact ⟨rb, c, e, has_ov_other (fun e => h2 (has_type hp (e ▸ k1))) k1, k2⟩, h.caps, fun i hi h0 => by
    obtain ⟨b, c, e, k1, k2⟩ := h.row i hi h0
    exact ⟨b, c, e, has_ov_other (fun e => h3 (has_type hp (e ▸ k1))) k1, k2⟩, h.inj, h.rng⟩
theorem CopyAt.store {n : Nat} {w : World} {L M : ImgL} {f : Nat → Nat → Int} {p : Nat} {cs cs' : Array Value} {T T' : TypeId} (h : CopyAt n L f w M) (hp : Has w p cs T) (h1 : T ≠ 121) (h2 : T ≠ 122) (h3 : T ≠ 5) : CopyAt n L f (ov w p cs' T') M := ⟨h.W, h.H, h.img.store hp h1 h2 h3, h.new⟩
/-- The image and the document's image of before. -/
def OldR (Y : World) (L : ImgL) (f : Nat → Nat → Int) (C : Array Value) (s t : Value) (wx : World) : Prop :=
  ∃ M p13, s = ptrTo M.p ∧ t = ptrTo p13 ∧ CopyAt Y.heap.size L f wx M ∧ Has wx p13 C 73 ∧ Y.heap.size ≤ p13 ∧ Below Y.heap.size Y wx
/-- What an act has left. -/
def ActA (w : World) (L M : ImgL) (p9 p13 W H m N : Nat) (f g : Nat → Nat → Int) (al : Option Addr) (ca : Nat) (wx : World) : Prop :=
  ∃ (f1 g1 : Nat → Nat → Int) (al1 : Option Addr) (ca1 : Nat), ImgAt wx L f1 ∧ Has wx p9 #[.int .i64 W, .int .i64 H, .slice al1 m ca1] 73 ∧ PicT wx al1 W H g1 ∧ (∀ i j, i < H → j < W → f1 i j = g1 i j) ∧ CopyAt N L f wx M ∧ Has wx p13 #[.int .i64 W, .int .i64 H, .slice al m ca] 73 ∧ PicT wx al W H g ∧ Below w.heap.size w wx
theorem PicT.store {w : World} {a : Option Addr} {W H p : Nat} {f : Nat → Nat → Int} {cs cs' : Array Value} {T T' : TypeId} (h : PicT w a W H f) (hp : Has w p cs T) (h1 : T ≠ 3) : PicT (ov w p cs' T') a W H f := fun h0 => by
  obtain ⟨b, c, e, k1, k2⟩ := h h0
  exact ⟨b, c, e, has_ov_other (fun e => h1 (has_type hp (e ▸ k1))) k1, k2⟩
/-- What an act leaves, once the document's image is stored. -/
theorem actA_mk {w U : World} {L M : ImgL} {p9 p13 W H m N : Nat} {f g f1 g1 : Nat → Nat → Int} {al al1 : Option Addr} {ca ca1 : Nat} {cs : Array Value} (h9 : Has U p9 cs 73) (h1 : ImgAt U L f1) (hp1 : PicT U al1 W H g1) (he : ∀ i j, i < H → j < W → f1 i j = g1 i j)
    (hc : CopyAt N L f U M) (h13 : Has U p13 #[.int .i64 W, .int .i64 H, .slice al m ca] 73) (hne : p13 ≠ p9) (hp : PicT U al W H g) (hb : Below w.heap.size w U) (hw : w.heap.size ≤ p9) :
    ActA w L M p9 p13 W H m N f g al ca (ov U p9 #[.int .i64 W, .int .i64 H, .slice al1 m ca1] 73) :=
  ⟨f1, g1, al1, ca1, h1.store h9 (by decide) (by decide) (by decide), has_ov_same h9.lt, hp1.store h9 (by decide), he, hc.store h9 (by decide) (by decide) (by decide), has_ov_other hne h13, hp.store h9 (by decide), below_ov hb hw _ _⟩
theorem tmod_rng (z : Int) : -999 ≤ z.tmod 1000 ∧ z.tmod 1000 ≤ 999 := by
  rcases Int.le_total 0 z with h | h
  · rw [Int.tmod_eq_emod_of_nonneg h]; omega
  · obtain ⟨y, rfl⟩ : ∃ y, z = -y := ⟨-z, by omega⟩
    rw [Int.neg_tmod, Int.tmod_eq_emod_of_nonneg (by omega)]; omega
/-- Where RasterPlays stands. -/
def RpI (w : World) (L : ImgL) (p9 W H n : Nat) (iv : Value) (wr : World) : Prop :=
  ∃ (i : Nat) (f g : Nat → Nat → Int) (al : Option Addr) (ca : Nat), iv = .int .i64 i ∧ i ≤ n ∧ i ≤ 10 ∧ ImgAt wr L f ∧ Has wr p9 #[.int .i64 W, .int .i64 H, .slice al (W * H) ca] 73 ∧ PicT wr al W H g ∧ (∀ i j, i < H → j < W → f i j = g i j) ∧ Below w.heap.size w wr
set_option maxRecDepth 100000 in
set_option maxHeartbeats 8000000 in
theorem rplays_any (a : Option Addr) (n c : Nat) (l : List ActR) (x y : Int) (w : World) (hx : 0 ≤ x ∧ x ≤ 255) (hy : 0 ≤ y ∧ y ≤ 255) (hn : l.length = n) (hn1 : n ≤ c) (hc : c ≤ 9223372036854775807) (h : ActsR w a l) :
    Calls Try.prog 6 #[.int .u8 x, .int .u8 y, .slice a n c] w fun e w' => e = .returned (.bool true) ∧ Below w.heap.size w w' := by
  obtain ⟨W, hW⟩ : ∃ W : Nat, x % 24 = W := ⟨(x % 24).toNat, by omega⟩
  obtain ⟨H, hH⟩ : ∃ H : Nat, y % 24 = H := ⟨(y % 24).toNat, by omega⟩
  have hW2 : W ≤ 24 := by omega
  have hH2 : H ≤ 24 := by omega
  have t1 : x.tmod 24 = (W : Int) := by rw [Int.tmod_eq_emod_of_nonneg hx.1]; exact hW
  have t2 : y.tmod 24 = (H : Int) := by rw [Int.tmod_eq_emod_of_nonneg hy.1]; exact hH
  have HNW := Lib.hid (fun u => new8_any W H u (by omega) (by omega))
  have HRN := Lib.hid (fun u => rnew28_any W H u hW2 hH2)
  have HN := Lib.hid hn; have HA := Lib.hid h
  obtain ⟨d1, d2⟩ := hx
  obtain ⟨d3, d4⟩ := hy
  clear hn h hW hH
  go_enter Try.func6, Try.ntmps6
  go_wp2_with (first | (go_at_call 36; (with_reducible refine (speaks28_any _).mono ?_); rintro e u1 ⟨rfl, hb⟩; have hz := hb.size; refine (fun hB => ?_ : Below w.heap.size w u1 → _) ?_; rotate_left; (focus ((repeat' (first | (with_reducible exact Below.refl _ _) | (with_reducible assumption) | (with_reducible refine below_from_drew ?_) | (with_reducible refine Below.alloc ?_ ?_ _) | (with_reducible refine Below.drew ?_) | (with_reducible refine below_drewN ?_ _) | (with_reducible refine Below.setCell ?_ ?_ _) | (with_reducible refine below_via ?_ (by assumption) ?_) | (with_reducible refine below_ov ?_ ?_ _ _) | go_size)); done)); (try simp only [World.size_alloc, World.size_setCell, World.size_drew, ov_size] at hz)) | ((go_at_call 37); (with_reducible refine (HNW.out _).mono ?_); rintro e u2 ⟨L, ⟨rfl, hLW, hLH, him, hnew⟩, hb⟩))
  refine (HRN.out u2).mono ?_
  rintro e u3 ⟨b, cs, ⟨rfl, hbs, hbn, hsz, hcs⟩, hb2⟩
  have hbw : Below w.heap.size w u3 := (hB.trans (hb.mono hz)).trans (hb2.mono (Nat.le_trans hz hb.size))
  have hm3 := him.below hb2
  have hpt : PicT u3 (some ⟨b, 0, none⟩) W H (fun _ _ => 0) := fun _ => ⟨b, cs, rfl, hbs, fun y x hy hx => hcs _ (place_lt hx hy)⟩
  have hnw : L.New w.heap.size := ⟨Nat.le_trans hz hnew.1, fun b q => Nat.le_trans hz (hnew.2 b q)⟩
  have HNL := Lib.hid hnw; have HM3 := Lib.hid hm3; have HPT := Lib.hid hpt; have HBW := Lib.hid hbw; have HLW := Lib.hid hLW; have HLH := Lib.hid hLH
  have hzz : w.heap.size ≤ u3.heap.size := hbw.size
  clear hbs hbn hsz hcs hb2 hb hB hz hm3 hpt hnw hbw him hnew hLW hLH
  obtain ⟨m, hm⟩ : ∃ m, W * H = m := ⟨_, rfl⟩
  have HMM := Lib.hid hm
  rw [hm]
  clear hm
  go_wp2_with fail
  refine name_world (f := Code.wp _ _ _ _) (fun X hX => ?_)
  obtain ⟨p9, hp9⟩ : ∃ k, u3.heap.size = k := ⟨_, rfl⟩
  have hI : RpI w L p9 W H n (.int .i64 0) X := ⟨0, fun _ _ => 0, fun _ _ => 0, some ⟨b, 0, none⟩, m, rfl, Nat.zero_le _, by omega,
    by rw [hX]; exact HM3.out.below ((Below.refl _ _).alloc (Nat.le_refl _) _), by rw [hX, ← hp9, HMM.out]; exact has_new rfl, by rw [hX]; exact HPT.out.below ((Below.refl _ _).alloc (Nat.le_refl _) _), fun _ _ _ _ => rfl, by rw [hX]; exact HBW.out.alloc hzz _⟩
  have HI := Lib.hid hI
  have hp9w : w.heap.size ≤ p9 := by omega
  rw [hp9]
  clear hI hX hp9 hzz HM3 HPT HBW
  go_loopw [10] (fun iv wr => RpI w L p9 W H n iv wr) (fun iv _ => 10 - (intOf iv).toNat)
  case atStart => exact HI.out
  case round =>
    clear HI
    unfold RpI at hrel
    obtain ⟨i, f, g, al, ca, rfl, hin, hi10, him, h9, hpc, heq, hbw⟩ := hrel
    rw [HMM.out] at h9
    have HIM := Lib.hid him; have H9 := Lib.hid h9; have HPC := Lib.hid hpc; have HEQ := Lib.hid heq; have HBE := Lib.hid hbw
    have hzr : w.heap.size ≤ wr.heap.size := hbw.size
    clear him h9 hpc heq hbw
    have cc : n ≤ i ∨ (i < n ∧ 10 ≤ i) ∨ (i < n ∧ i < 10) := by omega
    rcases cc with c1 | ⟨c1, c2⟩ | ⟨c1, c2⟩
    · have c3 : (n : Int) ≤ i := by omega
      go_wp2_with fail
      go_ret
      exact ⟨rfl, HBE.out⟩
    · have c3 : (i : Int) < n := by omega
      have c4 : (10 : Int) ≤ i := by omega
      go_wp2_with fail
      go_ret
      exact ⟨rfl, HBE.out⟩
    · have c3 : (i : Int) < n := by omega
      have c4 : (i : Int) < 10 := by omega
      obtain ⟨bl, off, rfl, hbl, hcl⟩ := HA.out (by rw [HN.out]; omega)
      obtain ⟨hok, k0, k1, k2, k3, k4⟩ := hcl i (by rw [HN.out]; exact c1)
      have k0 := (HBE.out.cell (p := ⟨bl, _, none⟩) hbl).trans k0; have k1 := (HBE.out.cell (p := ⟨bl, _, none⟩) hbl).trans k1; have k2 := (HBE.out.cell (p := ⟨bl, _, none⟩) hbl).trans k2; have k3 := (HBE.out.cell (p := ⟨bl, _, none⟩) hbl).trans k3; have k4 := (HBE.out.cell (p := ⟨bl, _, none⟩) hbl).trans k4
      have lbl : bl < wr.heap.size := Nat.lt_of_lt_of_le hbl hzr
      have obl : Old wr bl := lbl
      have HOK := Lib.hid hok
      clear hcl hok hbl
      generalize l.getD i actR0 = q at *
      obtain ⟨k, ia, nI, cI, I, wa, nW, cW, P, dx, dy⟩ := q
      simp only at k0 k1 k2 k3 k4
      go_wp2_with fail
      refine name_world (f := Code.wp _ _ _ _) (fun Y hY => ?_)
      have hBY : Below wr.heap.size wr Y := by rw [hY]; (repeat' (first | (with_reducible exact Below.refl _ _) | (with_reducible assumption) | (with_reducible refine below_from_drew ?_) | (with_reducible refine Below.alloc ?_ ?_ _) | (with_reducible refine Below.drew ?_) | (with_reducible refine below_drewN ?_ _) | (with_reducible refine Below.setCell ?_ ?_ _) | (with_reducible refine below_via ?_ (by assumption) ?_) | (with_reducible refine below_ov ?_ ?_ _ _) | go_size))
      have h11 : Has Y wr.heap.size #[.int .u8 k, .slice ia nI cI, .slice wa nW cW, .int .i64 dx, .int .i64 dy] 77 := by rw [hY]; exact has_new rfl
      obtain ⟨p11, hp11⟩ : ∃ k, wr.heap.size = k := ⟨_, rfl⟩
      rw [hp11] at h11 ⊢
      have HIY := Lib.hid (HIM.out.below hBY); have h9Y := has_below hBY H9.out; have HPY := Lib.hid (HPC.out.below hBY); have HBY := Lib.hid (HBE.out.trans (hBY.mono hzr))
      have H9Y := Lib.hid h9Y; have H11 := Lib.hid h11
      have hzY : w.heap.size ≤ Y.heap.size := HBY.out.size
      have q9 := h9Y.lt; have c9 := h9Y.cells; have o9 : Old Y p9 := q9
      have HCP := Lib.hid (fun u (hb : Below Y.heap.size Y u) => copy28 L f Y.heap.size u (HIY.out.below hb) hb.size)
      clear hY hBY hp11 HIM H9 HPC HBE k0 k1 k2 k3 k4 lbl obl h11
      go_cut [12, 13] (fun s t wx => OldR Y L f #[.int .i64 W, .int .i64 H, .slice al m ca] s t wx)
      case first =>
        refine region_tree (.rd 0 (.rd 2 (.br 1 (.mk 3 (.rd 4 (.lt 5 .nl))) (.mk 3 (.mk 1 (.rd 4 (.lt 5 .nl))))))) (by kernel_rfl) (by kernel_rfl) (fun _ _ d _ _ h => by cases d <;> exact h) (fun hS => ?_)
        (refine wpT_read (v := ?_) rfl (.inl ⟨by rfl, fun wx hbx => ?_⟩) ?_; rotate_left; (focus (obtain ⟨cx0, fx0, zx0⟩ := bk hbx (p9) (by first | omega | (simp; done) | (simp; omega)); go_simp; (try go_bits); (try with_reducible rfl))); try simp only [Act.put, List.setIfInBounds_toArray, List.set_cons_zero, List.set_cons_succ])
        (refine wpT_read (v := ?_) rfl (.inl ⟨by rfl, fun wx hbx => ?_⟩) ?_; rotate_left; (focus (obtain ⟨cx0, fx0, zx0⟩ := bk hbx (p9) (by first | omega | (simp; done) | (simp; omega)); go_simp; (try go_bits); (try with_reducible rfl))); try simp only [Act.put, List.setIfInBounds_toArray, List.set_cons_zero, List.set_cons_succ])
        refine wpT_both rfl (fun K hK => ?_) ?_
        (focus ((go_simp; (first | (go_at_call 39; (with_reducible refine (HCP.out _ (by (repeat' (first | (with_reducible exact Below.refl _ _) | (with_reducible assumption) | (with_reducible refine below_from_drew ?_) | (with_reducible refine Below.alloc ?_ ?_ _) | (with_reducible refine Below.drew ?_) | (with_reducible refine below_drewN ?_ _) | (with_reducible refine Below.setCell ?_ ?_ _) | (with_reducible refine below_via ?_ (by assumption) ?_) | (with_reducible refine below_ov ?_ ?_ _ _) | go_size)))).mono ?_); rintro e w1 ⟨M, rfl, hM, hb⟩; refine Exists.elim (after1 (w := Y) (b0 := Y.heap.size) (cs0 := ?_) (T0 := ?_) hb ?_ ?_) ?_; rotate_left 2; (focus ((repeat' (first | (with_reducible exact Below.refl _ _) | (with_reducible assumption) | (with_reducible refine below_from_drew ?_) | (with_reducible refine Below.alloc ?_ ?_ _) | (with_reducible refine Below.drew ?_) | (with_reducible refine below_drewN ?_ _) | (with_reducible refine Below.setCell ?_ ?_ _) | (with_reducible refine below_via ?_ (by assumption) ?_) | (with_reducible refine below_ov ?_ ?_ _ _) | go_size)); done)); (focus ((repeat' (first | (with_reducible refine has_drew ?_) | (with_reducible refine has_drewN ?_) | (with_reducible refine has_new ?_; (first | (with_reducible rfl) | omega | (simp; done) | (simp; omega))) | (with_reducible refine has_ov_same ?_; (first | (with_reducible rfl) | omega | (simp; done) | (simp; omega))) | (with_reducible refine has_alloc ?_) | (with_reducible refine has_ov_other ?_ ?_; (focus (first | (with_reducible rfl) | omega | (simp; done) | (simp; omega)))) | (with_reducible assumption) | (with_reducible exact has_below hB (by assumption)))); done)); rintro u4 ⟨rfl, hB, hz, z0, o0⟩; (try simp only [World.size_alloc, World.size_setCell, World.size_drew, ov_size] at hz)) | (go_at_call 39; (with_reducible refine (HCP.out _ (by (repeat' (first | (with_reducible exact Below.refl _ _) | (with_reducible assumption) | (with_reducible refine below_from_drew ?_) | (with_reducible refine Below.alloc ?_ ?_ _) | (with_reducible refine Below.drew ?_) | (with_reducible refine below_drewN ?_ _) | (with_reducible refine Below.setCell ?_ ?_ _) | (with_reducible refine below_via ?_ (by assumption) ?_) | (with_reducible refine below_ov ?_ ?_ _ _) | go_size)))).mono ?_); rintro e u5 ⟨M, rfl, hM, hb⟩; have hz := hb.size; refine (fun hB => ?_ : Below Y.heap.size Y u5 → _) ?_; rotate_left; (focus ((repeat' (first | (with_reducible exact Below.refl _ _) | (with_reducible assumption) | (with_reducible refine below_from_drew ?_) | (with_reducible refine Below.alloc ?_ ?_ _) | (with_reducible refine Below.drew ?_) | (with_reducible refine below_drewN ?_ _) | (with_reducible refine Below.setCell ?_ ?_ _) | (with_reducible refine below_via ?_ (by assumption) ?_) | (with_reducible refine below_ov ?_ ?_ _ _) | go_size)); done)); (try simp only [World.size_alloc, World.size_setCell, World.size_drew, ov_size] at hz))); (try simp only []); (try have hbk := hb); refine hK _ _ ?_ (fun hS2 => ?_); (focus ((repeat' (first | (with_reducible exact Below.refl _ _) | (with_reducible assumption) | (with_reducible refine below_from_drew ?_) | (with_reducible refine Below.alloc ?_ ?_ _) | (with_reducible refine Below.drew ?_) | (with_reducible refine below_drewN ?_ _) | (with_reducible refine Below.setCell ?_ ?_ _) | (with_reducible refine below_via ?_ (by assumption) ?_) | (with_reducible refine below_ov ?_ ?_ _ _) | go_size)); done)); clear hK K hS; have hS := hS2; clear hS2; (try clear hb); try simp only [Act.put, List.setIfInBounds_toArray, List.set_cons_zero, List.set_cons_succ]); (refine wpT_make rfl (fun K hK => ?_); go_simp; (try simp only []); (try simp only []); (try have hbk := hb); refine hK _ _ ?_ (fun hS2 => ?_); (focus ((repeat' (first | (with_reducible exact Below.refl _ _) | (with_reducible assumption) | (with_reducible refine below_from_drew ?_) | (with_reducible refine Below.alloc ?_ ?_ _) | (with_reducible refine Below.drew ?_) | (with_reducible refine below_drewN ?_ _) | (with_reducible refine Below.setCell ?_ ?_ _) | (with_reducible refine below_via ?_ (by assumption) ?_) | (with_reducible refine below_ov ?_ ?_ _ _) | go_size)); done)); clear hK K hS; have hS := hS2; clear hS2; (try clear hb); try simp only [Act.put, List.setIfInBounds_toArray, List.set_cons_zero, List.set_cons_succ]); (refine wpT_read (v := ?_) rfl (.inl ⟨by rfl, fun wx hbx => ?_⟩) ?_; rotate_left; (focus (obtain ⟨cx0, fx0, zx0⟩ := bk hbx (p9) (by first | omega | (simp; done) | (simp; omega)); go_simp; (try go_bits); (try with_reducible rfl))); try simp only [Act.put, List.setIfInBounds_toArray, List.set_cons_zero, List.set_cons_succ]); (refine wpT_late rfl (fun K hK => ?_); go_simp; (try simp only []); (try simp only []); refine hK _ _ ?_; clear hK K; try simp only [Act.put, List.setIfInBounds_toArray, List.set_cons_zero, List.set_cons_succ]); refine wpT_nil ?_))
        rotate_left 1
        (focus (refine wpT_make rfl (fun K hK => ?_); (go_simp; (try simp only []); (try simp only []); (try have hbk := hb); refine hK _ _ ?_ (fun hS2 => ?_); (focus ((repeat' (first | (with_reducible exact Below.refl _ _) | (with_reducible assumption) | (with_reducible refine below_from_drew ?_) | (with_reducible refine Below.alloc ?_ ?_ _) | (with_reducible refine Below.drew ?_) | (with_reducible refine below_drewN ?_ _) | (with_reducible refine Below.setCell ?_ ?_ _) | (with_reducible refine below_via ?_ (by assumption) ?_) | (with_reducible refine below_ov ?_ ?_ _ _) | go_size)); done)); clear hK K hS; have hS := hS2; clear hS2; (try clear hb); try simp only [Act.put, List.setIfInBounds_toArray, List.set_cons_zero, List.set_cons_succ]); (refine wpT_make rfl (fun K hK => ?_); go_simp; (first | (go_at_call 39; (with_reducible refine (HCP.out _ (by (repeat' (first | (with_reducible exact Below.refl _ _) | (with_reducible assumption) | (with_reducible refine below_from_drew ?_) | (with_reducible refine Below.alloc ?_ ?_ _) | (with_reducible refine Below.drew ?_) | (with_reducible refine below_drewN ?_ _) | (with_reducible refine Below.setCell ?_ ?_ _) | (with_reducible refine below_via ?_ (by assumption) ?_) | (with_reducible refine below_ov ?_ ?_ _ _) | go_size)))).mono ?_); rintro e w1 ⟨M, rfl, hM, hb⟩; refine Exists.elim (after1 (w := Y) (b0 := Y.heap.size) (cs0 := ?_) (T0 := ?_) hb ?_ ?_) ?_; rotate_left 2; (focus ((repeat' (first | (with_reducible exact Below.refl _ _) | (with_reducible assumption) | (with_reducible refine below_from_drew ?_) | (with_reducible refine Below.alloc ?_ ?_ _) | (with_reducible refine Below.drew ?_) | (with_reducible refine below_drewN ?_ _) | (with_reducible refine Below.setCell ?_ ?_ _) | (with_reducible refine below_via ?_ (by assumption) ?_) | (with_reducible refine below_ov ?_ ?_ _ _) | go_size)); done)); (focus ((repeat' (first | (with_reducible refine has_drew ?_) | (with_reducible refine has_drewN ?_) | (with_reducible refine has_new ?_; (first | (with_reducible rfl) | omega | (simp; done) | (simp; omega))) | (with_reducible refine has_ov_same ?_; (first | (with_reducible rfl) | omega | (simp; done) | (simp; omega))) | (with_reducible refine has_alloc ?_) | (with_reducible refine has_ov_other ?_ ?_; (focus (first | (with_reducible rfl) | omega | (simp; done) | (simp; omega)))) | (with_reducible assumption) | (with_reducible exact has_below hB (by assumption)))); done)); rintro u4 ⟨rfl, hB, hz, z0, o0⟩; (try simp only [World.size_alloc, World.size_setCell, World.size_drew, ov_size] at hz)) | (go_at_call 39; (with_reducible refine (HCP.out _ (by (repeat' (first | (with_reducible exact Below.refl _ _) | (with_reducible assumption) | (with_reducible refine below_from_drew ?_) | (with_reducible refine Below.alloc ?_ ?_ _) | (with_reducible refine Below.drew ?_) | (with_reducible refine below_drewN ?_ _) | (with_reducible refine Below.setCell ?_ ?_ _) | (with_reducible refine below_via ?_ (by assumption) ?_) | (with_reducible refine below_ov ?_ ?_ _ _) | go_size)))).mono ?_); rintro e u5 ⟨M, rfl, hM, hb⟩; have hz := hb.size; refine (fun hB => ?_ : Below Y.heap.size Y u5 → _) ?_; rotate_left; (focus ((repeat' (first | (with_reducible exact Below.refl _ _) | (with_reducible assumption) | (with_reducible refine below_from_drew ?_) | (with_reducible refine Below.alloc ?_ ?_ _) | (with_reducible refine Below.drew ?_) | (with_reducible refine below_drewN ?_ _) | (with_reducible refine Below.setCell ?_ ?_ _) | (with_reducible refine below_via ?_ (by assumption) ?_) | (with_reducible refine below_ov ?_ ?_ _ _) | go_size)); done)); (try simp only [World.size_alloc, World.size_setCell, World.size_drew, ov_size] at hz))); (try simp only []); (try have hbk := hb); refine hK _ _ ?_ (fun hS2 => ?_); (focus ((repeat' (first | (with_reducible exact Below.refl _ _) | (with_reducible assumption) | (with_reducible refine below_from_drew ?_) | (with_reducible refine Below.alloc ?_ ?_ _) | (with_reducible refine Below.drew ?_) | (with_reducible refine below_drewN ?_ _) | (with_reducible refine Below.setCell ?_ ?_ _) | (with_reducible refine below_via ?_ (by assumption) ?_) | (with_reducible refine below_ov ?_ ?_ _ _) | go_size)); done)); clear hK K hS; have hS := hS2; clear hS2; (try clear hb); try simp only [Act.put, List.setIfInBounds_toArray, List.set_cons_zero, List.set_cons_succ]); (refine wpT_read (v := ?_) rfl (.inl ⟨by rfl, fun wx hbx => ?_⟩) ?_; rotate_left; (focus (obtain ⟨cx0, fx0, zx0⟩ := bk hbx (p9) (by first | omega | (simp; done) | (simp; omega)); go_simp; (try go_bits); (try with_reducible rfl))); try simp only [Act.put, List.setIfInBounds_toArray, List.set_cons_zero, List.set_cons_succ]); (refine wpT_late rfl (fun K hK => ?_); go_simp; (try simp only []); (try simp only []); refine hK _ _ ?_; clear hK K; try simp only [Act.put, List.setIfInBounds_toArray, List.set_cons_zero, List.set_cons_succ]); refine wpT_nil ?_))
        · have hq : Has (ov u4 Y.heap.size #[.int .i64 0, .int .i64 0, .slice none 0 0] 73) Y.heap.size #[.int .i64 0, .int .i64 0, .slice none 0 0] 73 := has_ov_same z0
          have hM2 := hM.store (cs' := #[.int .i64 W, .int .i64 H, .slice al m ca]) (T' := 73) hq (by decide) (by decide) (by decide)
          rw [ov_ov_same] at hM2
          have HM2 := Lib.hid hM2
          clear hM hM2 hq
          go_wp2_with fail
          go_meet
          exact ⟨M, Y.heap.size, rfl, rfl, HM2.out, by (repeat' (first | (with_reducible refine has_drew ?_) | (with_reducible refine has_drewN ?_) | (with_reducible refine has_new ?_; (first | (with_reducible rfl) | omega | (simp; done) | (simp; omega))) | (with_reducible refine has_ov_same ?_; (first | (with_reducible rfl) | omega | (simp; done) | (simp; omega))) | (with_reducible refine has_alloc ?_) | (with_reducible refine has_ov_other ?_ ?_; (focus (first | (with_reducible rfl) | omega | (simp; done) | (simp; omega)))) | (with_reducible assumption) | (with_reducible exact has_below hB (by assumption)))), Nat.le_refl _, by (repeat' (first | (with_reducible exact Below.refl _ _) | (with_reducible assumption) | (with_reducible refine below_from_drew ?_) | (with_reducible refine Below.alloc ?_ ?_ _) | (with_reducible refine Below.drew ?_) | (with_reducible refine below_drewN ?_ _) | (with_reducible refine Below.setCell ?_ ?_ _) | (with_reducible refine below_via ?_ (by assumption) ?_) | (with_reducible refine below_ov ?_ ?_ _ _) | go_size))⟩
        · have hM2 := hM.below ((Below.refl _ u5).alloc (Nat.le_refl _) (.cells #[.int .i64 W, .int .i64 H, .slice al m ca] 73))
          have HM2 := Lib.hid hM2
          clear hM hM2
          go_wp2_with fail
          go_meet
          exact ⟨M, u5.heap.size, rfl, rfl, HM2.out, has_new rfl, hz, by (repeat' (first | (with_reducible exact Below.refl _ _) | (with_reducible assumption) | (with_reducible refine below_from_drew ?_) | (with_reducible refine Below.alloc ?_ ?_ _) | (with_reducible refine Below.drew ?_) | (with_reducible refine below_drewN ?_ _) | (with_reducible refine Below.setCell ?_ ?_ _) | (with_reducible refine below_via ?_ (by assumption) ?_) | (with_reducible refine below_ov ?_ ?_ _ _) | go_size))⟩
      case rest =>
        obtain ⟨M, p13, rfl, rfl, hcp, h13, hz13, hbz⟩ := hcut
        have HLZ := Lib.hid (HIY.out.below hbz); have HPZ := Lib.hid (HPY.out.below hbz); have HBZ := Lib.hid (HBY.out.trans (hbz.mono hzY))
        have hc11 := has_below hbz H11.out; have hc9 := has_below hbz H9Y.out
        have HC11 := Lib.hid hc11; have HC9 := Lib.hid hc9; have HC13 := Lib.hid h13; have HCPY := Lib.hid hcp
        have hzZ : w.heap.size ≤ wc.heap.size := HBZ.out.size
        have hyz := hbz.size
        obtain ⟨Z, rfl⟩ : ∃ Z : World, Z = wc := ⟨_, rfl⟩
        have hdis := fun b (q : L.S b) (q' : M.S b) => (show False by have := HIY.out.S_lt q; have := hcp.new.2 b q'; omega)
        have HDIS := Lib.hid hdis
        have H9L := Lib.hid (show p9 < p13 from by have := h9Y.lt; omega)
        clear hdis
        have e11 := hc11.cells; have l11 := hc11.lt; have o11 : Old Z p11 := l11
        have hk := HOK.out.k
        simp only at hk
        obtain ⟨r, hr⟩ : ∃ r, k % 3 = r := ⟨_, rfl⟩
        have hr2 : k.tmod 3 = r := by rw [Int.tmod_eq_emod_of_nonneg hk.1]; exact hr
        have hr3 : 0 ≤ r ∧ r ≤ 2 := by omega
        clear hr hk hbz h13 hcp hc11 hc9 q9 c9 o9 HIY HPY HBY H9Y H11 HCP
        go_upto_if 64 with fail
        go_cut [14, 15, 16, 17, 18, 19, 20, 21, 22] (fun _ _ _ _ _ _ _ _ _ wx => ActA w L M p9 p13 W H m Y.heap.size f g al ca wx)
        case first =>
          have hr4 : r = 2 ∨ r = 0 ∨ r = 1 := by omega
          clear hr3
          by_cases hr5 : r = 2
          · subst hr5
            clear hr4
            have b1 := tmod_rng dx
            have b2 := tmod_rng dy
            obtain ⟨ex, hex⟩ : ∃ ex, dx.tmod 1000 = ex := ⟨_, rfl⟩
            obtain ⟨ey, hey⟩ : ∃ ey, dy.tmod 1000 = ey := ⟨_, rfl⟩
            rw [hex] at b1
            rw [hey] at b2
            go_wp2_with fail
            refine region_tree (.rd 0 (.rd 1 (.rd 2 (.rd 3 (.rd 4 (.rd 5 (.rd 6 (.rd 7 (.rd 8 (.mk 9 (.mk 10 (.rd 11 (.rd 12 .nl))))))))))))) (by kernel_rfl) (by kernel_rfl) (fun _ _ d _ _ h => by cases d <;> exact h) (fun hS => ?_)
            (refine wpT_read (v := ?_) rfl (.inl ⟨by rfl, fun wx hbx => ?_⟩) ?_; rotate_left; (focus (obtain ⟨cx0, fx0, zx0⟩ := bk hbx (p11) (by first | omega | (simp; done) | (simp; omega)); go_simp; (try go_bits); (try with_reducible rfl))); try simp only [Act.put, List.setIfInBounds_toArray, List.set_cons_zero, List.set_cons_succ])
            (refine wpT_read (v := ?_) rfl (.inl ⟨by rfl, fun wx hbx => ?_⟩) ?_; rotate_left; (focus (obtain ⟨cx0, fx0, zx0⟩ := bk hbx (p11) (by first | omega | (simp; done) | (simp; omega)); go_simp; (try go_bits); (try with_reducible rfl))); try simp only [Act.put, List.setIfInBounds_toArray, List.set_cons_zero, List.set_cons_succ])
            (refine wpT_read (v := ?_) rfl (.inl ⟨by rfl, fun wx hbx => ?_⟩) ?_; rotate_left; (focus (obtain ⟨cx0, fx0, zx0⟩ := bk hbx (p11) (by first | omega | (simp; done) | (simp; omega)); go_simp; (try go_bits); (try with_reducible rfl))); try simp only [Act.put, List.setIfInBounds_toArray, List.set_cons_zero, List.set_cons_succ])
            (refine wpT_read (v := ?_) rfl (.inl ⟨by rfl, fun wx hbx => ?_⟩) ?_; rotate_left; (focus (obtain ⟨cx0, fx0, zx0⟩ := bk hbx (p11) (by first | omega | (simp; done) | (simp; omega)); go_simp; (try go_bits); (try with_reducible rfl))); try simp only [Act.put, List.setIfInBounds_toArray, List.set_cons_zero, List.set_cons_succ])
            (refine wpT_read (v := ?_) rfl (.inl ⟨by rfl, fun wx hbx => ?_⟩) ?_; rotate_left; (focus (obtain ⟨cx0, fx0, zx0⟩ := bk hbx (p11) (by first | omega | (simp; done) | (simp; omega)); go_simp; (try go_bits); (try with_reducible rfl))); try simp only [Act.put, List.setIfInBounds_toArray, List.set_cons_zero, List.set_cons_succ])
            (refine wpT_read (v := ?_) rfl (.inl ⟨by rfl, fun wx hbx => ?_⟩) ?_; rotate_left; (focus (obtain ⟨cx0, fx0, zx0⟩ := bk hbx (p11) (by first | omega | (simp; done) | (simp; omega)); go_simp; (try go_bits); (try with_reducible rfl))); try simp only [Act.put, List.setIfInBounds_toArray, List.set_cons_zero, List.set_cons_succ])
            (refine wpT_read (v := ?_) rfl (.inl ⟨by rfl, fun wx hbx => ?_⟩) ?_; rotate_left; (focus (obtain ⟨cx0, fx0, zx0⟩ := bk hbx (p11) (by first | omega | (simp; done) | (simp; omega)); go_simp; (try go_bits); (try with_reducible rfl))); try simp only [Act.put, List.setIfInBounds_toArray, List.set_cons_zero, List.set_cons_succ])
            (refine wpT_read (v := ?_) rfl (.inl ⟨by rfl, fun wx hbx => ?_⟩) ?_; rotate_left; (focus (obtain ⟨cx0, fx0, zx0⟩ := bk hbx (p11) (by first | omega | (simp; done) | (simp; omega)); go_simp; (try go_bits); (try with_reducible rfl))); try simp only [Act.put, List.setIfInBounds_toArray, List.set_cons_zero, List.set_cons_succ])
            (refine wpT_read (v := ?_) rfl (.inl ⟨by rfl, fun wx hbx => ?_⟩) ?_; rotate_left; (focus (obtain ⟨cx0, fx0, zx0⟩ := bk hbx (p11) (by first | omega | (simp; done) | (simp; omega)); go_simp; (try go_bits); (try with_reducible rfl))); try simp only [Act.put, List.setIfInBounds_toArray, List.set_cons_zero, List.set_cons_succ])
            (refine wpT_make rfl (fun K hK => ?_); go_simp; (try simp only []); (try simp only []); (try have hbk := hb); refine hK _ _ ?_ (fun hS2 => ?_); (focus ((repeat' (first | (with_reducible exact Below.refl _ _) | (with_reducible assumption) | (with_reducible refine below_from_drew ?_) | (with_reducible refine Below.alloc ?_ ?_ _) | (with_reducible refine Below.drew ?_) | (with_reducible refine below_drewN ?_ _) | (with_reducible refine Below.setCell ?_ ?_ _) | (with_reducible refine below_via ?_ (by assumption) ?_) | (with_reducible refine below_ov ?_ ?_ _ _) | go_size)); done)); clear hK K hS; have hS := hS2; clear hS2; (try clear hb); try simp only [Act.put, List.setIfInBounds_toArray, List.set_cons_zero, List.set_cons_succ])
            (refine wpT_make rfl (fun K hK => ?_); go_simp; (try simp only []); (try simp only []); (try have hbk := hb); refine hK _ _ ?_ (fun hS2 => ?_); (focus ((repeat' (first | (with_reducible exact Below.refl _ _) | (with_reducible assumption) | (with_reducible refine below_from_drew ?_) | (with_reducible refine Below.alloc ?_ ?_ _) | (with_reducible refine Below.drew ?_) | (with_reducible refine below_drewN ?_ _) | (with_reducible refine Below.setCell ?_ ?_ _) | (with_reducible refine below_via ?_ (by assumption) ?_) | (with_reducible refine below_ov ?_ ?_ _ _) | go_size)); done)); clear hK K hS; have hS := hS2; clear hS2; (try clear hb); try simp only [Act.put, List.setIfInBounds_toArray, List.set_cons_zero, List.set_cons_succ])
            (refine wpT_read (v := ?_) rfl (.inl ⟨by rfl, fun wx hbx => ?_⟩) ?_; rotate_left; (focus (obtain ⟨cx0, fx0, zx0⟩ := bk hbx (p11) (by first | omega | (simp; done) | (simp; omega)); go_simp; (try go_bits); (try with_reducible rfl))); try simp only [Act.put, List.setIfInBounds_toArray, List.set_cons_zero, List.set_cons_succ])
            (refine wpT_read (v := ?_) rfl (.inl ⟨by rfl, fun wx hbx => ?_⟩) ?_; rotate_left; (focus (obtain ⟨cx0, fx0, zx0⟩ := bk hbx (p11) (by first | omega | (simp; done) | (simp; omega)); go_simp; (try go_bits); (try with_reducible rfl))); try simp only [Act.put, List.setIfInBounds_toArray, List.set_cons_zero, List.set_cons_succ])
            refine wpT_nil ?_
            have hw1 := HOK.out.w1; have hw2 := HOK.out.w2; have hw3 := HOK.out.w3
            have hne13 : p13 ≠ p9 := by have := H9L.out; omega
            simp only at hw1 hw2 hw3
            have hq : ∃ q : RectQ, (nW = 0 ∧ q = (0, 0, 0, 0)) ∨ (0 < nW ∧ q = P.getD 0 q0Z) := by
              rcases Nat.eq_zero_or_pos nW with e | e
              · exact ⟨_, .inl ⟨e, rfl⟩⟩
              · exact ⟨_, .inr ⟨e, rfl⟩⟩
            obtain ⟨⟨q0, q1, q2, q3⟩, hq⟩ := hq
            have HDOC := Lib.hid (fun (i j : Nat) (hi : i < H) (hj : j < W) => move_doc (W := W) (H := H) (by omega) (q0, q1, q2, q3) (dx := ex) (dy := ey) (by omega) (by omega) f g HEQ.out hi hj)
            rcases hq with ⟨rfl, hq⟩ | ⟨hnw, hq⟩
            · cases hq
              go_wp2_with (go_at_call 41; (with_reducible refine (told28_any _ _ _ _ _).mono ?_); rintro e w1 ⟨rfl, hb⟩; refine Exists.elim (after1 (w := Z) (b0 := Z.heap.size) (cs0 := ?_) (T0 := ?_) hb ?_ ?_) ?_; rotate_left 2; (focus ((repeat' (first | (with_reducible exact Below.refl _ _) | (with_reducible assumption) | (with_reducible refine below_from_drew ?_) | (with_reducible refine Below.alloc ?_ ?_ _) | (with_reducible refine Below.drew ?_) | (with_reducible refine below_drewN ?_ _) | (with_reducible refine Below.setCell ?_ ?_ _) | (with_reducible refine below_via ?_ (by assumption) ?_) | (with_reducible refine below_ov ?_ ?_ _ _) | go_size)); done)); (focus ((repeat' (first | (with_reducible refine has_drew ?_) | (with_reducible refine has_drewN ?_) | (with_reducible refine has_new ?_; (first | (with_reducible rfl) | omega | (simp; done) | (simp; omega))) | (with_reducible refine has_ov_same ?_; (first | (with_reducible rfl) | omega | (simp; done) | (simp; omega))) | (with_reducible refine has_alloc ?_) | (with_reducible refine has_ov_other ?_ ?_; (focus (first | (with_reducible rfl) | omega | (simp; done) | (simp; omega)))) | (with_reducible assumption) | (with_reducible exact has_below hB (by assumption)))); done)); rintro v1 ⟨rfl, hB, hz, z0, o0⟩; (try simp only [World.size_alloc, World.size_setCell, World.size_drew, ov_size] at hz))
              refine name_world (f := fun V => Calls _ _ _ V _) (fun V hV => ?_)
              have hbV : Below Z.heap.size Z V := by rw [hV]; (repeat' (first | (with_reducible exact Below.refl _ _) | (with_reducible assumption) | (with_reducible refine below_from_drew ?_) | (with_reducible refine Below.alloc ?_ ?_ _) | (with_reducible refine Below.drew ?_) | (with_reducible refine below_drewN ?_ _) | (with_reducible refine Below.setCell ?_ ?_ _) | (with_reducible refine below_via ?_ (by assumption) ?_) | (with_reducible refine below_ov ?_ ?_ _ _) | go_size))
              have h14 : Has V Z.heap.size #[.int .i64 0, .int .i64 0, .int .i64 0, .int .i64 0] 30 := by rw [hV]; (repeat' (first | (with_reducible refine has_drew ?_) | (with_reducible refine has_drewN ?_) | (with_reducible refine has_new ?_; (first | (with_reducible rfl) | omega | (simp; done) | (simp; omega))) | (with_reducible refine has_ov_same ?_; (first | (with_reducible rfl) | omega | (simp; done) | (simp; omega))) | (with_reducible refine has_alloc ?_) | (with_reducible refine has_ov_other ?_ ?_; (focus (first | (with_reducible rfl) | omega | (simp; done) | (simp; omega)))) | (with_reducible assumption) | (with_reducible exact has_below hB (by assumption))))
              obtain ⟨p14, hp14⟩ : ∃ k, Z.heap.size = k := ⟨_, rfl⟩
              rw [hp14] at h14 ⊢
              have HLV := Lib.hid (HLZ.out.below hbV)
              have CM := move8_any L f (0, 0, 0, 0) ex ey V HLV.out (by omega) (by omega)
              simp only [rectVal] at CM
              rw [HLW.out, HLH.out] at CM
              refine CM.mono ?_
              rintro e U ⟨rfl, him, hbut⟩
              have v9 := has_below hbV HC9.out; have v13 := has_below hbV HC13.out
              have u9 := hbut.has v9 v9.lt (HLV.out.S_not v9 (by decide))
              have u13 := hbut.has v13 v13.lt (HLV.out.S_not v13 (by decide))
              have u14 := hbut.has h14 h14.lt (HLV.out.S_not h14 (by decide))
              have uP : PicT U al W H g := (HPZ.out.below hbV).buts hbut rfl (fun b cs q hh => HLV.out.S_not hh (by decide) q)
              have uM : CopyAt Y.heap.size L f U M := ⟨HCPY.out.W, HCPY.out.H, (HCPY.out.img.below hbV).apart HLV.out hbut (fun b q q' => HDIS.out b q q'), HCPY.out.new⟩
              have ub : Below w.heap.size w U := (HBZ.out.trans (hbV.mono hzZ)).trans (below_buts HNL.out hbut (Nat.le_trans hzZ hbV.size))
              have HCR := Lib.hid (fun u (hb : Below U.heap.size U u) => rmove28_any W H ca al (0, 0, 0, 0) ex ey g u hW2 hH2 (uP.below hb) (by omega) (by omega))
              simp only [rectVal] at HCR
              rw [HMM.out] at HCR
              have e9 := u9.cells; have l9 := u9.lt; have o9 : Old U p9 := l9
              have e14 := u14.cells; have l14 := u14.lt; have o14 : Old U p14 := l14
              have HU9 := Lib.hid u9; have HU13 := Lib.hid u13; have HUP := Lib.hid uP; have HUM := Lib.hid uM; have HUB := Lib.hid ub; have HUI := Lib.hid him
              have hzU : w.heap.size ≤ U.heap.size := ub.size
              clear hV hbV h14 hp14 CM him hbut v9 v13 u9 u13 u14 uP uM ub hb hB hz z0 o0 hS e11 l11 o11 hbk
              go_wp2_with ((go_at_call 42); (with_reducible refine (HCR.out _ (by (repeat' (first | (with_reducible exact Below.refl _ _) | (with_reducible assumption) | (with_reducible refine below_from_drew ?_) | (with_reducible refine Below.alloc ?_ ?_ _) | (with_reducible refine Below.drew ?_) | (with_reducible refine below_drewN ?_ _) | (with_reducible refine Below.setCell ?_ ?_ _) | (with_reducible refine below_via ?_ (by assumption) ?_) | (with_reducible refine below_ov ?_ ?_ _ _) | go_size)))).mono ?_); rintro e U2 ⟨al2, ca2, rfl, hp2, hb⟩; have h92 := has_below hb HU9.out; have n92 := h92.lt; rw [← ov_self h92])
              go_meet
              exact actA_mk h92 (HUI.out.below hb) hp2 HDOC.out (HUM.out.below hb) (has_below hb HU13.out) hne13 (HUP.out.below hb) (HUB.out.trans (hb.mono hzU)) hp9w
            · obtain ⟨bw, offw, rfl, hbw2, hcw⟩ := (HOK.out.w4.below HBZ.out) (by simp only; omega)
              obtain ⟨k0, k1, k2, k3⟩ := hcw 0 (by simp only; omega)
              simp only at k0 k1 k2 k3
              rw [← hq] at k0 k1 k2 k3
              simp only [Nat.zero_mul, Nat.add_zero] at k0 k1 k2 k3
              have obw : Old Z bw := hbw2
              have hnwI : (0 : Int) < nW := by omega
              clear hcw hq
              go_wp2_with (go_at_call 41; (with_reducible refine (told28_any _ _ _ _ _).mono ?_); rintro e w1 ⟨rfl, hb⟩; refine Exists.elim (after1 (w := Z) (b0 := Z.heap.size) (cs0 := ?_) (T0 := ?_) hb ?_ ?_) ?_; rotate_left 2; (focus ((repeat' (first | (with_reducible exact Below.refl _ _) | (with_reducible assumption) | (with_reducible refine below_from_drew ?_) | (with_reducible refine Below.alloc ?_ ?_ _) | (with_reducible refine Below.drew ?_) | (with_reducible refine below_drewN ?_ _) | (with_reducible refine Below.setCell ?_ ?_ _) | (with_reducible refine below_via ?_ (by assumption) ?_) | (with_reducible refine below_ov ?_ ?_ _ _) | go_size)); done)); (focus ((repeat' (first | (with_reducible refine has_drew ?_) | (with_reducible refine has_drewN ?_) | (with_reducible refine has_new ?_; (first | (with_reducible rfl) | omega | (simp; done) | (simp; omega))) | (with_reducible refine has_ov_same ?_; (first | (with_reducible rfl) | omega | (simp; done) | (simp; omega))) | (with_reducible refine has_alloc ?_) | (with_reducible refine has_ov_other ?_ ?_; (focus (first | (with_reducible rfl) | omega | (simp; done) | (simp; omega)))) | (with_reducible assumption) | (with_reducible exact has_below hB (by assumption)))); done)); rintro v1 ⟨rfl, hB, hz, z0, o0⟩; (try simp only [World.size_alloc, World.size_setCell, World.size_drew, ov_size] at hz))
              refine name_world (f := fun V => Calls _ _ _ V _) (fun V hV => ?_)
              have hbV : Below Z.heap.size Z V := by rw [hV]; (repeat' (first | (with_reducible exact Below.refl _ _) | (with_reducible assumption) | (with_reducible refine below_from_drew ?_) | (with_reducible refine Below.alloc ?_ ?_ _) | (with_reducible refine Below.drew ?_) | (with_reducible refine below_drewN ?_ _) | (with_reducible refine Below.setCell ?_ ?_ _) | (with_reducible refine below_via ?_ (by assumption) ?_) | (with_reducible refine below_ov ?_ ?_ _ _) | go_size))
              have h14 : Has V Z.heap.size #[.int .i64 q0, .int .i64 q1, .int .i64 q2, .int .i64 q3] 30 := by rw [hV]; (repeat' (first | (with_reducible refine has_drew ?_) | (with_reducible refine has_drewN ?_) | (with_reducible refine has_new ?_; (first | (with_reducible rfl) | omega | (simp; done) | (simp; omega))) | (with_reducible refine has_ov_same ?_; (first | (with_reducible rfl) | omega | (simp; done) | (simp; omega))) | (with_reducible refine has_alloc ?_) | (with_reducible refine has_ov_other ?_ ?_; (focus (first | (with_reducible rfl) | omega | (simp; done) | (simp; omega)))) | (with_reducible assumption) | (with_reducible exact has_below hB (by assumption))))
              obtain ⟨p14, hp14⟩ : ∃ k, Z.heap.size = k := ⟨_, rfl⟩
              rw [hp14] at h14 ⊢
              have HLV := Lib.hid (HLZ.out.below hbV)
              have CM := move8_any L f (q0, q1, q2, q3) ex ey V HLV.out (by omega) (by omega)
              simp only [rectVal] at CM
              rw [HLW.out, HLH.out] at CM
              refine CM.mono ?_
              rintro e U ⟨rfl, him, hbut⟩
              have v9 := has_below hbV HC9.out; have v13 := has_below hbV HC13.out
              have u9 := hbut.has v9 v9.lt (HLV.out.S_not v9 (by decide))
              have u13 := hbut.has v13 v13.lt (HLV.out.S_not v13 (by decide))
              have u14 := hbut.has h14 h14.lt (HLV.out.S_not h14 (by decide))
              have uP : PicT U al W H g := (HPZ.out.below hbV).buts hbut rfl (fun b cs q hh => HLV.out.S_not hh (by decide) q)
              have uM : CopyAt Y.heap.size L f U M := ⟨HCPY.out.W, HCPY.out.H, (HCPY.out.img.below hbV).apart HLV.out hbut (fun b q q' => HDIS.out b q q'), HCPY.out.new⟩
              have ub : Below w.heap.size w U := (HBZ.out.trans (hbV.mono hzZ)).trans (below_buts HNL.out hbut (Nat.le_trans hzZ hbV.size))
              have HCR := Lib.hid (fun u (hb : Below U.heap.size U u) => rmove28_any W H ca al (q0, q1, q2, q3) ex ey g u hW2 hH2 (uP.below hb) (by omega) (by omega))
              simp only [rectVal] at HCR
              rw [HMM.out] at HCR
              have e9 := u9.cells; have l9 := u9.lt; have o9 : Old U p9 := l9
              have e14 := u14.cells; have l14 := u14.lt; have o14 : Old U p14 := l14
              have HU9 := Lib.hid u9; have HU13 := Lib.hid u13; have HUP := Lib.hid uP; have HUM := Lib.hid uM; have HUB := Lib.hid ub; have HUI := Lib.hid him
              have hzU : w.heap.size ≤ U.heap.size := ub.size
              clear hV hbV h14 hp14 CM him hbut v9 v13 u9 u13 u14 uP uM ub hb hB hz z0 o0 hS e11 l11 o11 hbk
              go_wp2_with ((go_at_call 42); (with_reducible refine (HCR.out _ (by (repeat' (first | (with_reducible exact Below.refl _ _) | (with_reducible assumption) | (with_reducible refine below_from_drew ?_) | (with_reducible refine Below.alloc ?_ ?_ _) | (with_reducible refine Below.drew ?_) | (with_reducible refine below_drewN ?_ _) | (with_reducible refine Below.setCell ?_ ?_ _) | (with_reducible refine below_via ?_ (by assumption) ?_) | (with_reducible refine below_ov ?_ ?_ _ _) | go_size)))).mono ?_); rintro e U2 ⟨al2, ca2, rfl, hp2, hb⟩; have h92 := has_below hb HU9.out; have n92 := h92.lt; rw [← ov_self h92])
              go_meet
              exact actA_mk h92 (HUI.out.below hb) hp2 HDOC.out (HUM.out.below hb) (has_below hb HU13.out) hne13 (HUP.out.below hb) (HUB.out.trans (hb.mono hzU)) hp9w
          · rw [show (r == 2) = false from by simpa using hr5]
            go_wp2_with fail
            obtain ⟨i17, hi17, z17, z17b, z17c⟩ := info_parts infoIt
            obtain ⟨i18, hi18, z18, z18b, z18c⟩ := info_parts infoRi
            have hi1 := HOK.out.i1; have hi2 := HOK.out.i2; have hi3 := HOK.out.i3
            simp only at hi1 hi2 hi3
            have HIL := Lib.hid (HOK.out.i4.below HBZ.out)
            simp only at HIL
            go_loopw [17, 18, 19] (fun s17 s18 iv wr => ItA Z I s17 s18 iv wr) (fun _ _ iv _ => 8 - (intOf iv).toNat)
            case atStart => exact ⟨0, none, 0, none, 0, rfl, Nat.zero_le _, by omega, rfl, rfl, World.ownsRow_nil _ _ _ _, World.ownsRow_nil _ _ _ _, Below.refl _ _⟩
            case round =>
              unfold ItA at hrel
              obtain ⟨j, a1, c17, a2, c18, rfl, hjI, hj8, rfl, rfl, hown1, hown2, hbe⟩ := hrel
              have HO1 := Lib.hid hown1; have HO2 := Lib.hid hown2; have HBJ := Lib.hid hbe
              have hzj := hbe.size
              obtain ⟨hca0, hfa0, hoa0⟩ := bcell3 hbe
              clear hown1 hown2 hbe
              have cj : (I.length ≤ j ∨ 8 ≤ j) ∨ (j < I.length ∧ j < 8) := by omega
              rcases cj with j1 | ⟨j1, j2⟩
              · go_upto_region 21 with fail
                go_cut [101] (fun s wx => s = .bool false ∧ wx = wr)
                case first =>
                  rcases Nat.lt_or_ge j I.length with j2 | j2
                  · have j3 : (j : Int) < nI := by omega
                    have j4 : (8 : Int) ≤ j := by omega
                    go_wp2_with fail
                    go_meet
                    exact ⟨by first | rfl | (congr 1; simp; omega), rfl⟩
                  · have j3 : (nI : Int) ≤ j := by omega
                    go_wp2_with fail
                    go_meet
                    exact ⟨by first | rfl | (congr 1; simp; omega), rfl⟩
                case rest =>
                  obtain ⟨rfl, hwc⟩ := hcut
                  obtain rfl : wr = wc := hwc.symm
                  clear hwc
                  obtain ⟨hK8, hown1, hown2⟩ := itE_mk HO1.out HO2.out hjI hj8 j1
                  obtain ⟨K, rfl⟩ : ∃ K : Nat, K = j := ⟨_, rfl⟩
                  obtain ⟨a17, rfl⟩ : ∃ x : Option Addr, x = a1 := ⟨_, rfl⟩
                  obtain ⟨a18, rfl⟩ : ∃ x : Option Addr, x = a2 := ⟨_, rfl⟩
                  clear hjI hj8 j1 HO1 HO2 hca0 hfa0 hoa0 hzj
                  have HK8 := Lib.hid hK8; clear hK8
                  have hbe := HBJ.out
                  have HO17 := Lib.hid hown1; have HO18 := Lib.hid hown2; have HBE := Lib.hid hbe
                  have hc11 := has_below hbe HC11.out; have hc9 := has_below hbe HC9.out; have hc13 := has_below hbe HC13.out
                  have HLZ := Lib.hid (HLZ.out.below hbe); have HPZ := Lib.hid (HPZ.out.below hbe); have HBZ := Lib.hid (HBZ.out.trans (hbe.mono hzZ))
                  have HCPY := Lib.hid (HCPY.out.below hbe)
                  have HC11 := Lib.hid hc11; have HC9 := Lib.hid hc9; have HC13 := Lib.hid hc13
                  have e11 := hc11.cells; have l11 := hc11.lt; have o11 : Old wr p11 := l11
                  have hzZ2 : w.heap.size ≤ wr.heap.size := HBZ.out.size
                  have hzZZ : Z.heap.size ≤ wr.heap.size := hbe.size
                  obtain ⟨Z2, rfl⟩ : ∃ Z2 : World, Z2 = wr := ⟨_, rfl⟩
                  clear hown1 hown2 hbe hc11 hc9 hc13
                  obtain ⟨i20, hi20, z20, z20b, z20c⟩ := info_parts infoR8
                  obtain ⟨i21, hi21, z21, z21b, z21c⟩ := info_parts infoR6
                  have hw1 := HOK.out.w1; have hw2 := HOK.out.w2; have hw3 := HOK.out.w3
                  simp only at hw1 hw2 hw3
                  have HWL := Lib.hid (HOK.out.w4.below HBZ.out)
                  simp only at HWL
                  go_wp2_with fail
                  go_loopw [20, 21, 22] (fun s t iv wr => ItW Z2 P s t iv wr) (fun _ _ iv _ => 5 - (intOf iv).toNat)
                  case atStart => exact ⟨0, none, 0, none, 0, rfl, Nat.zero_le _, by omega, rfl, rfl, World.ownsRow_nil _ _ _ _, World.ownsRow_nil _ _ _ _, Below.refl _ _⟩
                  case round =>
                    unfold ItW at hrel
                    obtain ⟨j, a1, c1, a2, c2, rfl, hjI, hj8, rfl, rfl, hown1, hown2, hbe⟩ := hrel
                    have HO1 := Lib.hid hown1; have HO2 := Lib.hid hown2; have HBJ := Lib.hid hbe
                    have hzj := hbe.size
                    obtain ⟨hca0, hfa0, hoa0⟩ := bcell3 hbe
                    clear hown1 hown2 hbe
                    have cj : (P.length ≤ j ∨ 5 ≤ j) ∨ (j < P.length ∧ j < 5) := by omega
                    rcases cj with j1 | ⟨j1, j2⟩
                    · go_upto_region 28 with fail
                      go_cut [146] (fun s wx => s = .bool false ∧ wx = wr)
                      case first =>
                        rcases Nat.lt_or_ge j P.length with j2 | j2
                        · have j3 : (j : Int) < nW := by omega
                          have j4 : (5 : Int) ≤ j := by omega
                          go_wp2_with fail
                          go_meet
                          exact ⟨by first | rfl | (congr 1; simp; omega), rfl⟩
                        · have j3 : (nW : Int) ≤ j := by omega
                          go_wp2_with fail
                          go_meet
                          exact ⟨by first | rfl | (congr 1; simp; omega), rfl⟩
                      case rest =>
                        obtain ⟨rfl, hwc⟩ := hcut
                        obtain rfl : wr = wc := hwc.symm
                        clear hwc
                        obtain ⟨hK5, hown1, hown2⟩ := itF_mk HO1.out HO2.out hjI hj8 j1
                        obtain ⟨K5, rfl⟩ : ∃ K : Nat, K = j := ⟨_, rfl⟩
                        obtain ⟨a20, rfl⟩ : ∃ x : Option Addr, x = a1 := ⟨_, rfl⟩
                        obtain ⟨a21, rfl⟩ : ∃ x : Option Addr, x = a2 := ⟨_, rfl⟩
                        obtain ⟨c20, rfl⟩ : ∃ x : Nat, x = c1 := ⟨_, rfl⟩
                        obtain ⟨c21, rfl⟩ : ∃ x : Nat, x = c2 := ⟨_, rfl⟩
                        clear hjI hj8 j1 HO1 HO2 hca0 hfa0 hoa0 hzj
                        have HK5 := Lib.hid hK5; clear hK5
                        have hbe := HBJ.out
                        have hP5 : (P.take 5).length ≤ 5 := by rw [List.length_take]; omega
                        have hI8 : (I.take 8).length ≤ 8 := by rw [List.length_take]; omega
                        have HPW := Lib.hid (quadsR_owned hown1 HK5.out.symm)
                        obtain ⟨_, _, e20, n20, m20, _⟩ := row_reads hown1
                        cases e20
                        have HO21 := Lib.hid hown2; have HBE2 := Lib.hid hbe
                        have HO17 := Lib.hid (row_below hbe HO17.out); have HO18 := Lib.hid (row_below hbe HO18.out)
                        have HCOL := Lib.hid (fun i (hi : i < K) => items_col HIL.out (i := i) (HK8.out ▸ hi))
                        have HIT := Lib.hid (itemsT_owned HO17.out HK8.out.symm HCOL.out)
                        have hzZ3 : w.heap.size ≤ wr.heap.size := Nat.le_trans hzZ2 hbe.size
                        have HDOC := Lib.hid (fun (i j : Nat) (hi : i < H) (hj : j < W) => paint_doc (W := W) (H := H) ⟨by omega, by omega⟩ ((I.take 8).map zItem) (P.take 5) f g HEQ.out hi hj)
                        have hne13 : p13 ≠ p9 := by have := H9L.out; omega
                        clear hown1 hown2 hbe
                        go_wp2_with ((go_at_call 11); (with_reducible refine (of_any' 6 a20 K5 c20 (P.take 5) _ (by have := HK5.out; omega) HK5.out.symm n20 m20 HPW.out).mono ?_); rintro e V ⟨al5, ca5, rfl, hbs, hbV⟩)
                        have hbZV := HBE2.out.trans (hbV.mono HBE2.out.size)
                        have HLV := Lib.hid (HLZ.out.below hbZV)
                        have CM := paint8_any L f a17 al5 K c17 ca5 ((I.take 8).map zItem) (ofL (P.take 5)) (rectsZ (ofL (P.take 5))) V HLV.out (by rw [List.length_map]; exact HK8.out.symm) (by have := HK8.out; omega) (HIT.out.below hbV) (ofL_ok _) hbs rfl (rects_few hP5)
                        rw [HLW.out, HLH.out] at CM
                        refine CM.mono ?_
                        rintro e U ⟨rfl, him, hbut⟩
                        have v9 := has_below hbZV HC9.out; have v13 := has_below hbZV HC13.out
                        have u9 := hbut.has v9 v9.lt (HLV.out.S_not v9 (by decide))
                        have u13 := hbut.has v13 v13.lt (HLV.out.S_not v13 (by decide))
                        have uP : PicT U al W H g := (HPZ.out.below hbZV).buts hbut rfl (fun b cs q hh => HLV.out.S_not hh (by decide) q)
                        have uM : CopyAt Y.heap.size L f U M := ⟨HCPY.out.W, HCPY.out.H, (HCPY.out.img.below hbZV).apart HLV.out hbut (fun b q q' => HDIS.out b q q'), HCPY.out.new⟩
                        have ub : Below w.heap.size w U := (HBZ.out.trans (hbZV.mono hzZ2)).trans (below_buts HNL.out hbut (Nat.le_trans hzZ2 hbZV.size))
                        have u18 := itemsR_owned (row_buts (row_below hbV HO18.out) hbut rfl (fun b cs q hh => HLV.out.S_not hh (by decide) q)) HK8.out.symm
                        have u21 := quadsR_owned (row_buts (row_below hbV HO21.out) hbut rfl (fun b cs q hh => HLV.out.S_not hh (by decide) q)) HK5.out.symm
                        have HCR := Lib.hid (fun u (hb : Below U.heap.size U u) => rpaint28_any W H ca al a18 a21 K c18 K5 c21 g ((I.take 8).map zItem) (P.take 5) u hW2 hH2 (uP.below hb) (by rw [List.length_map]; exact HK8.out.symm) (by have := HK8.out; omega) (u18.below hb) HK5.out.symm (by have := HK5.out; omega) (u21.below hb))
                        rw [HMM.out] at HCR
                        have e9 := u9.cells; have l9 := u9.lt; have o9 : Old U p9 := l9
                        have HU9 := Lib.hid u9; have HU13 := Lib.hid u13; have HUP := Lib.hid uP; have HUM := Lib.hid uM; have HUB := Lib.hid ub; have HUI := Lib.hid him
                        have hzU : w.heap.size ≤ U.heap.size := ub.size
                        clear hbV hbZV CM him hbut v9 v13 u9 u13 u18 u21 uP uM ub e11 l11 o11 hbs
                        go_wp2_with fail
                        refine (HCR.out _ (Below.refl _ _)).mono ?_
                        rintro e U2 ⟨al2, ca2, rfl, hp2, hb⟩
                        have h92 := has_below hb HU9.out
                        have n92 := h92.lt
                        rw [← ov_self h92]
                        go_wp2_with fail
                        go_meet
                        exact actA_mk h92 (HUI.out.below hb) hp2 HDOC.out (HUM.out.below hb) (has_below hb HU13.out) hne13 (HUP.out.below hb) (HUB.out.trans (hb.mono hzU)) hp9w
                    · have j3 : (j : Int) < nW := by omega
                      have j4 : (j : Int) < 5 := by omega
                      have j5 : (0 : Int) ≤ j := by omega
                      obtain ⟨bw, offw, rfl, hbw, hcw⟩ := HWL.out (by omega)
                      obtain ⟨m0, m1, m2, m3⟩ := hcw j j1
                      have obw : Old Z2 bw := hbw
                      have HSN := Lib.hid (take_snocZ q0Z j1)
                      clear hcw
                      generalize P.getD j q0Z = q at *
                      obtain ⟨x0, x1, x2, x3⟩ := q
                      simp only at m0 m1 m2 m3
                      go_wp2_with fail
                      have HS := Lib.hid HBJ.out.drew; have HA := Lib.hid HO1.out.drew; have HB := Lib.hid HO2.out.drew
                      refine region_treeS (S := fun wx => Below Z2.heap.size Z2 wx) HBJ.out.drew (.rd 0 (.rd 1 (.rd 2 (.rd 3 (.rd 4 (.rd 5 (.rd 9 (.rd 10 (.rd 11 (.rd 12 (.rd 13 (.rd 14 (.br 6 (.br 7 (.br 8 (.mk 15 (.mk 16 (.mk 17 (.mk 18 .nl)))) (.mk 15 (.mk 8 (.mk 16 (.mk 17 (.mk 18 .nl)))))) (.mk 15 (.mk 7 (.mk 8 (.mk 16 (.mk 17 (.mk 18 .nl))))))) (.mk 15 (.mk 6 (.mk 7 (.mk 8 (.mk 16 (.mk 17 (.mk 18 .nl)))))))))))))))))))) (by kernel_rfl) (by kernel_rfl) (fun _ _ d _ _ h => by cases d <;> exact h) (fun hS => ?_)
                      clear hS
                      iterate 12
                        (refine wpT_read (v := ?_) rfl (.inl ⟨by rfl, fun wx hbx => ?_⟩) ?_; rotate_left; (focus (obtain ⟨hca, hfa, hoa⟩ := bcell3 hbx; go_simp; (try go_bits); (try with_reducible rfl))); try simp only [Act.put, List.setIfInBounds_toArray, List.set_cons_zero, List.set_cons_succ])
                      refine wpT_both rfl (fun K hK => ?_) ?_
                      · go_simp
                        go_at_call 41
                        with_reducible refine (told28_any _ _ _ _ _).mono ?_
                        rintro e v6 ⟨rfl, hb⟩
                        have HS := Lib.hid (HS.out.trans (hb.mono HS.out.size))
                        have HA := Lib.hid (row_below hb HA.out); have HB := Lib.hid (row_below hb HB.out)
                        clear hb
                        refine hK _ _ ?_ (fun hS2 => ?_)
                        focus (exact HS.out)
                        clear hK K hS2
                        try simp only [Act.put, List.setIfInBounds_toArray, List.set_cons_zero, List.set_cons_succ]
                        refine wpT_both rfl (fun K hK => ?_) ?_
                        · go_simp
                          have HS := Lib.hid (HS.out.alloc HS.out.size (.cells #[.int .i64 x0, .int .i64 x1, .int .i64 x2, .int .i64 x3] 40))
                          have HA := Lib.hid (HA.out.alloc (.cells #[.int .i64 x0, .int .i64 x1, .int .i64 x2, .int .i64 x3] 40)); have HB := Lib.hid (HB.out.alloc (.cells #[.int .i64 x0, .int .i64 x1, .int .i64 x2, .int .i64 x3] 40))
                          have H7 := Lib.hid (has_new (w := v6) (b := v6.heap.size) (cs := #[.int .i64 x0, .int .i64 x1, .int .i64 x2, .int .i64 x3]) (T := 40) (by simp))
                          refine hK _ _ ?_ (fun hS2 => ?_)
                          focus (exact HS.out)
                          clear hK K hS2
                          try simp only [Act.put, List.setIfInBounds_toArray, List.set_cons_zero, List.set_cons_succ]
                          refine wpT_both rfl (fun K hK => ?_) ?_
                          · refine wp_append_own (P := Try.prog) _ _ _ _ rfl Z2.heap.size 40 i20 (.agg #[.int .i64 0, .int .i64 0, .int .i64 0, .int .i64 0]) 4 32 Try.underlying57 hi20 z20 z20b z20c rfl (by decide) _ _ _ rfl HA.out ⟨v6.heap.size, 0, none⟩ 1 1 [.int .i64 x0, .int .i64 x1, .int .i64 x2, .int .i64 x3] rfl rfl (news_has H7.out) (one_of rfl) (by unfold maxLen; omega) (by omega) HS.out.size ?_
                            intro v8 w8 hown hgrow hnil
                            clear hnil
                            have hS7 : Below Z2.heap.size Z2 w8 := HS.out.grown hgrow HS.out.size (fun g hg => row_block HA.out g hg)
                            have hown8 := HB.out.kept hgrow (rows_apart HB.out HA.out (by decide))
                            have HS := Lib.hid hS7
                            obtain ⟨a1', c1', rfl, _, _⟩ := row_reads hown
                            have HA := Lib.hid hown; have HB := Lib.hid hown8
                            clear hown hown8 hgrow hS7
                            refine hK _ _ ?_ (fun hS2 => ?_)
                            focus (exact HS.out)
                            clear hK K hS2
                            try simp only [Act.put, List.setIfInBounds_toArray, List.set_cons_zero, List.set_cons_succ]
                            refine wpT_make rfl (fun K hK => ?_)
                            go_simp
                            have HS := Lib.hid (HS.out.alloc HS.out.size (.cells #[.int .i64 x0, .int .i64 x1, .int .i64 x2, .int .i64 x3] 82))
                            have HA := Lib.hid (HA.out.alloc (.cells #[.int .i64 x0, .int .i64 x1, .int .i64 x2, .int .i64 x3] 82)); have HB := Lib.hid (HB.out.alloc (.cells #[.int .i64 x0, .int .i64 x1, .int .i64 x2, .int .i64 x3] 82))
                            have H15 := Lib.hid (has_new (w := w8) (b := w8.heap.size) (cs := #[.int .i64 x0, .int .i64 x1, .int .i64 x2, .int .i64 x3]) (T := 82) (by simp))
                            refine hK _ _ ?_ (fun hS2 => ?_)
                            focus (exact HS.out)
                            clear hK K hS2
                            try simp only [Act.put, List.setIfInBounds_toArray, List.set_cons_zero, List.set_cons_succ]
                            refine wpT_make rfl (fun K hK => ?_)
                            refine wp_append_own (P := Try.prog) _ _ _ _ rfl Z2.heap.size 82 i21 (.agg #[.int .i64 0, .int .i64 0, .int .i64 0, .int .i64 0]) 4 32 Try.underlying91 hi21 z21 z21b z21c rfl (by decide) _ _ _ rfl HB.out ⟨w8.heap.size, 0, none⟩ 1 1 [.int .i64 x0, .int .i64 x1, .int .i64 x2, .int .i64 x3] rfl rfl (news_has H15.out) (one_of rfl) (by unfold maxLen; omega) (by omega) HS.out.size ?_
                            intro v16 w16 hown hgrow hnil
                            clear hnil
                            have hS7 : Below Z2.heap.size Z2 w16 := HS.out.grown hgrow HS.out.size (fun g hg => row_block HB.out g hg)
                            have hown8 := HA.out.kept hgrow (rows_apart HA.out HB.out (by decide))
                            have HS := Lib.hid hS7
                            obtain ⟨a2', c2', rfl, _, _⟩ := row_reads hown
                            have HB := Lib.hid hown; have HA := Lib.hid hown8
                            clear hown hown8 hgrow hS7
                            refine hK _ _ ?_ (fun hS2 => ?_)
                            focus (exact HS.out)
                            clear hK K hS2
                            try simp only [Act.put, List.setIfInBounds_toArray, List.set_cons_zero, List.set_cons_succ]
                            refine wpT_make rfl (fun K hK => ?_)
                            go_simp
                            refine hK _ _ ?_ (fun hS2 => ?_)
                            focus (exact HS.out)
                            clear hK K hS2
                            try simp only [Act.put, List.setIfInBounds_toArray, List.set_cons_zero, List.set_cons_succ]
                            refine wpT_make rfl (fun K hK => ?_)
                            go_simp
                            refine hK _ _ ?_ (fun hS2 => ?_)
                            focus (exact HS.out)
                            clear hK K hS2
                            try simp only [Act.put, List.setIfInBounds_toArray, List.set_cons_zero, List.set_cons_succ]
                            refine wpT_nil ?_
                            clear hca0 hfa0 hoa0 H7 H15
                            go_wp2_with fail
                            refine ⟨⟨j + 1, a1', c1', a2', c2', by push_cast; rfl, j1, j2, rfl, rfl, ?_, ?_, HS.out⟩, by simp only [intOf]; omega⟩
                            · rw [HSN.out, rectCells_snoc]; exact HA.out
                            · rw [HSN.out, rectCells_snoc]; exact HB.out
                          · refine wpT_make rfl (fun K hK => ?_)
                            go_simp
                            have HS := Lib.hid (HS.out.alloc HS.out.size (.cells #[.int .i64 x0, .int .i64 x1, .int .i64 x2, .int .i64 x3] 82))
                            have HA := Lib.hid (HA.out.alloc (.cells #[.int .i64 x0, .int .i64 x1, .int .i64 x2, .int .i64 x3] 82)); have HB := Lib.hid (HB.out.alloc (.cells #[.int .i64 x0, .int .i64 x1, .int .i64 x2, .int .i64 x3] 82))
                            have H7 := Lib.hid (has_alloc (o := (.cells #[.int .i64 x0, .int .i64 x1, .int .i64 x2, .int .i64 x3] 82)) H7.out)
                            have H15 := Lib.hid (has_new (w := (v6.alloc (.cells #[.int .i64 x0, .int .i64 x1, .int .i64 x2, .int .i64 x3] 40))) (b := v6.heap.size + 1) (cs := #[.int .i64 x0, .int .i64 x1, .int .i64 x2, .int .i64 x3]) (T := 82) (by simp))
                            refine hK _ _ ?_ (fun hS2 => ?_)
                            focus (exact HS.out)
                            clear hK K hS2
                            try simp only [Act.put, List.setIfInBounds_toArray, List.set_cons_zero, List.set_cons_succ]
                            refine wpT_make rfl (fun K hK => ?_)
                            refine wp_append_own (P := Try.prog) _ _ _ _ rfl Z2.heap.size 40 i20 (.agg #[.int .i64 0, .int .i64 0, .int .i64 0, .int .i64 0]) 4 32 Try.underlying57 hi20 z20 z20b z20c rfl (by decide) _ _ _ rfl HA.out ⟨v6.heap.size, 0, none⟩ 1 1 [.int .i64 x0, .int .i64 x1, .int .i64 x2, .int .i64 x3] rfl rfl (news_has H7.out) (one_of rfl) (by unfold maxLen; omega) (by omega) HS.out.size ?_
                            intro v8 w8 hown hgrow hnil
                            clear hnil
                            have hS7 : Below Z2.heap.size Z2 w8 := HS.out.grown hgrow HS.out.size (fun g hg => row_block HA.out g hg)
                            have hown8 := HB.out.kept hgrow (rows_apart HB.out HA.out (by decide))
                            have H15 := Lib.hid (has_grown hgrow H15.out (row_has_apart HA.out H15.out (by decide)))
                            have HS := Lib.hid hS7
                            obtain ⟨a1', c1', rfl, _, _⟩ := row_reads hown
                            have HA := Lib.hid hown; have HB := Lib.hid hown8
                            clear hown hown8 hgrow hS7
                            refine hK _ _ ?_ (fun hS2 => ?_)
                            focus (exact HS.out)
                            clear hK K hS2
                            try simp only [Act.put, List.setIfInBounds_toArray, List.set_cons_zero, List.set_cons_succ]
                            refine wpT_make rfl (fun K hK => ?_)
                            refine wp_append_own (P := Try.prog) _ _ _ _ rfl Z2.heap.size 82 i21 (.agg #[.int .i64 0, .int .i64 0, .int .i64 0, .int .i64 0]) 4 32 Try.underlying91 hi21 z21 z21b z21c rfl (by decide) _ _ _ rfl HB.out ⟨v6.heap.size + 1, 0, none⟩ 1 1 [.int .i64 x0, .int .i64 x1, .int .i64 x2, .int .i64 x3] rfl rfl (news_has H15.out) (one_of rfl) (by unfold maxLen; omega) (by omega) HS.out.size ?_
                            intro v16 w16 hown hgrow hnil
                            clear hnil
                            have hS7 : Below Z2.heap.size Z2 w16 := HS.out.grown hgrow HS.out.size (fun g hg => row_block HB.out g hg)
                            have hown8 := HA.out.kept hgrow (rows_apart HA.out HB.out (by decide))
                            have HS := Lib.hid hS7
                            obtain ⟨a2', c2', rfl, _, _⟩ := row_reads hown
                            have HB := Lib.hid hown; have HA := Lib.hid hown8
                            clear hown hown8 hgrow hS7
                            refine hK _ _ ?_ (fun hS2 => ?_)
                            focus (exact HS.out)
                            clear hK K hS2
                            try simp only [Act.put, List.setIfInBounds_toArray, List.set_cons_zero, List.set_cons_succ]
                            refine wpT_make rfl (fun K hK => ?_)
                            go_simp
                            refine hK _ _ ?_ (fun hS2 => ?_)
                            focus (exact HS.out)
                            clear hK K hS2
                            try simp only [Act.put, List.setIfInBounds_toArray, List.set_cons_zero, List.set_cons_succ]
                            refine wpT_make rfl (fun K hK => ?_)
                            go_simp
                            refine hK _ _ ?_ (fun hS2 => ?_)
                            focus (exact HS.out)
                            clear hK K hS2
                            try simp only [Act.put, List.setIfInBounds_toArray, List.set_cons_zero, List.set_cons_succ]
                            refine wpT_nil ?_
                            clear hca0 hfa0 hoa0 H7 H15
                            go_wp2_with fail
                            refine ⟨⟨j + 1, a1', c1', a2', c2', by push_cast; rfl, j1, j2, rfl, rfl, ?_, ?_, HS.out⟩, by simp only [intOf]; omega⟩
                            · rw [HSN.out, rectCells_snoc]; exact HA.out
                            · rw [HSN.out, rectCells_snoc]; exact HB.out
                        · refine wpT_make rfl (fun K hK => ?_)
                          go_simp
                          have HS := Lib.hid (HS.out.alloc HS.out.size (.cells #[.int .i64 x0, .int .i64 x1, .int .i64 x2, .int .i64 x3] 82))
                          have HA := Lib.hid (HA.out.alloc (.cells #[.int .i64 x0, .int .i64 x1, .int .i64 x2, .int .i64 x3] 82)); have HB := Lib.hid (HB.out.alloc (.cells #[.int .i64 x0, .int .i64 x1, .int .i64 x2, .int .i64 x3] 82))
                          have H15 := Lib.hid (has_new (w := v6) (b := v6.heap.size) (cs := #[.int .i64 x0, .int .i64 x1, .int .i64 x2, .int .i64 x3]) (T := 82) (by simp))
                          refine hK _ _ ?_ (fun hS2 => ?_)
                          focus (exact HS.out)
                          clear hK K hS2
                          try simp only [Act.put, List.setIfInBounds_toArray, List.set_cons_zero, List.set_cons_succ]
                          refine wpT_make rfl (fun K hK => ?_)
                          go_simp
                          have HS := Lib.hid (HS.out.alloc HS.out.size (.cells #[.int .i64 x0, .int .i64 x1, .int .i64 x2, .int .i64 x3] 40))
                          have HA := Lib.hid (HA.out.alloc (.cells #[.int .i64 x0, .int .i64 x1, .int .i64 x2, .int .i64 x3] 40)); have HB := Lib.hid (HB.out.alloc (.cells #[.int .i64 x0, .int .i64 x1, .int .i64 x2, .int .i64 x3] 40))
                          have H15 := Lib.hid (has_alloc (o := (.cells #[.int .i64 x0, .int .i64 x1, .int .i64 x2, .int .i64 x3] 40)) H15.out)
                          have H7 := Lib.hid (has_new (w := (v6.alloc (.cells #[.int .i64 x0, .int .i64 x1, .int .i64 x2, .int .i64 x3] 82))) (b := v6.heap.size + 1) (cs := #[.int .i64 x0, .int .i64 x1, .int .i64 x2, .int .i64 x3]) (T := 40) (by simp))
                          refine hK _ _ ?_ (fun hS2 => ?_)
                          focus (exact HS.out)
                          clear hK K hS2
                          try simp only [Act.put, List.setIfInBounds_toArray, List.set_cons_zero, List.set_cons_succ]
                          refine wpT_make rfl (fun K hK => ?_)
                          refine wp_append_own (P := Try.prog) _ _ _ _ rfl Z2.heap.size 40 i20 (.agg #[.int .i64 0, .int .i64 0, .int .i64 0, .int .i64 0]) 4 32 Try.underlying57 hi20 z20 z20b z20c rfl (by decide) _ _ _ rfl HA.out ⟨v6.heap.size + 1, 0, none⟩ 1 1 [.int .i64 x0, .int .i64 x1, .int .i64 x2, .int .i64 x3] rfl rfl (news_has H7.out) (one_of rfl) (by unfold maxLen; omega) (by omega) HS.out.size ?_
                          intro v8 w8 hown hgrow hnil
                          clear hnil
                          have hS7 : Below Z2.heap.size Z2 w8 := HS.out.grown hgrow HS.out.size (fun g hg => row_block HA.out g hg)
                          have hown8 := HB.out.kept hgrow (rows_apart HB.out HA.out (by decide))
                          have H15 := Lib.hid (has_grown hgrow H15.out (row_has_apart HA.out H15.out (by decide)))
                          have HS := Lib.hid hS7
                          obtain ⟨a1', c1', rfl, _, _⟩ := row_reads hown
                          have HA := Lib.hid hown; have HB := Lib.hid hown8
                          clear hown hown8 hgrow hS7
                          refine hK _ _ ?_ (fun hS2 => ?_)
                          focus (exact HS.out)
                          clear hK K hS2
                          try simp only [Act.put, List.setIfInBounds_toArray, List.set_cons_zero, List.set_cons_succ]
                          refine wpT_make rfl (fun K hK => ?_)
                          refine wp_append_own (P := Try.prog) _ _ _ _ rfl Z2.heap.size 82 i21 (.agg #[.int .i64 0, .int .i64 0, .int .i64 0, .int .i64 0]) 4 32 Try.underlying91 hi21 z21 z21b z21c rfl (by decide) _ _ _ rfl HB.out ⟨v6.heap.size, 0, none⟩ 1 1 [.int .i64 x0, .int .i64 x1, .int .i64 x2, .int .i64 x3] rfl rfl (news_has H15.out) (one_of rfl) (by unfold maxLen; omega) (by omega) HS.out.size ?_
                          intro v16 w16 hown hgrow hnil
                          clear hnil
                          have hS7 : Below Z2.heap.size Z2 w16 := HS.out.grown hgrow HS.out.size (fun g hg => row_block HB.out g hg)
                          have hown8 := HA.out.kept hgrow (rows_apart HA.out HB.out (by decide))
                          have HS := Lib.hid hS7
                          obtain ⟨a2', c2', rfl, _, _⟩ := row_reads hown
                          have HB := Lib.hid hown; have HA := Lib.hid hown8
                          clear hown hown8 hgrow hS7
                          refine hK _ _ ?_ (fun hS2 => ?_)
                          focus (exact HS.out)
                          clear hK K hS2
                          try simp only [Act.put, List.setIfInBounds_toArray, List.set_cons_zero, List.set_cons_succ]
                          refine wpT_make rfl (fun K hK => ?_)
                          go_simp
                          refine hK _ _ ?_ (fun hS2 => ?_)
                          focus (exact HS.out)
                          clear hK K hS2
                          try simp only [Act.put, List.setIfInBounds_toArray, List.set_cons_zero, List.set_cons_succ]
                          refine wpT_make rfl (fun K hK => ?_)
                          go_simp
                          refine hK _ _ ?_ (fun hS2 => ?_)
                          focus (exact HS.out)
                          clear hK K hS2
                          try simp only [Act.put, List.setIfInBounds_toArray, List.set_cons_zero, List.set_cons_succ]
                          refine wpT_nil ?_
                          clear hca0 hfa0 hoa0 H7 H15
                          go_wp2_with fail
                          refine ⟨⟨j + 1, a1', c1', a2', c2', by push_cast; rfl, j1, j2, rfl, rfl, ?_, ?_, HS.out⟩, by simp only [intOf]; omega⟩
                          · rw [HSN.out, rectCells_snoc]; exact HA.out
                          · rw [HSN.out, rectCells_snoc]; exact HB.out
                      · refine wpT_make rfl (fun K hK => ?_)
                        go_simp
                        have HS := Lib.hid (HS.out.alloc HS.out.size (.cells #[.int .i64 x0, .int .i64 x1, .int .i64 x2, .int .i64 x3] 82))
                        have HA := Lib.hid (HA.out.alloc (.cells #[.int .i64 x0, .int .i64 x1, .int .i64 x2, .int .i64 x3] 82)); have HB := Lib.hid (HB.out.alloc (.cells #[.int .i64 x0, .int .i64 x1, .int .i64 x2, .int .i64 x3] 82))
                        have H15 := Lib.hid (has_new (w := wr.drew) (b := wr.heap.size) (cs := #[.int .i64 x0, .int .i64 x1, .int .i64 x2, .int .i64 x3]) (T := 82) (by simp))
                        refine hK _ _ ?_ (fun hS2 => ?_)
                        focus (exact HS.out)
                        clear hK K hS2
                        try simp only [Act.put, List.setIfInBounds_toArray, List.set_cons_zero, List.set_cons_succ]
                        refine wpT_make rfl (fun K hK => ?_)
                        go_simp
                        go_at_call 41
                        with_reducible refine (told28_any _ _ _ _ _).mono ?_
                        rintro e v6 ⟨rfl, hb⟩
                        have HS := Lib.hid (HS.out.trans (hb.mono HS.out.size))
                        have HA := Lib.hid (row_below hb HA.out); have HB := Lib.hid (row_below hb HB.out)
                        have H15 := Lib.hid (has_below hb H15.out)
                        clear hb
                        refine hK _ _ ?_ (fun hS2 => ?_)
                        focus (exact HS.out)
                        clear hK K hS2
                        try simp only [Act.put, List.setIfInBounds_toArray, List.set_cons_zero, List.set_cons_succ]
                        refine wpT_make rfl (fun K hK => ?_)
                        go_simp
                        have HS := Lib.hid (HS.out.alloc HS.out.size (.cells #[.int .i64 x0, .int .i64 x1, .int .i64 x2, .int .i64 x3] 40))
                        have HA := Lib.hid (HA.out.alloc (.cells #[.int .i64 x0, .int .i64 x1, .int .i64 x2, .int .i64 x3] 40)); have HB := Lib.hid (HB.out.alloc (.cells #[.int .i64 x0, .int .i64 x1, .int .i64 x2, .int .i64 x3] 40))
                        have H15 := Lib.hid (has_alloc (o := (.cells #[.int .i64 x0, .int .i64 x1, .int .i64 x2, .int .i64 x3] 40)) H15.out)
                        have H7 := Lib.hid (has_new (w := v6) (b := v6.heap.size) (cs := #[.int .i64 x0, .int .i64 x1, .int .i64 x2, .int .i64 x3]) (T := 40) (by simp))
                        refine hK _ _ ?_ (fun hS2 => ?_)
                        focus (exact HS.out)
                        clear hK K hS2
                        try simp only [Act.put, List.setIfInBounds_toArray, List.set_cons_zero, List.set_cons_succ]
                        refine wpT_make rfl (fun K hK => ?_)
                        refine wp_append_own (P := Try.prog) _ _ _ _ rfl Z2.heap.size 40 i20 (.agg #[.int .i64 0, .int .i64 0, .int .i64 0, .int .i64 0]) 4 32 Try.underlying57 hi20 z20 z20b z20c rfl (by decide) _ _ _ rfl HA.out ⟨v6.heap.size, 0, none⟩ 1 1 [.int .i64 x0, .int .i64 x1, .int .i64 x2, .int .i64 x3] rfl rfl (news_has H7.out) (one_of rfl) (by unfold maxLen; omega) (by omega) HS.out.size ?_
                        intro v8 w8 hown hgrow hnil
                        clear hnil
                        have hS7 : Below Z2.heap.size Z2 w8 := HS.out.grown hgrow HS.out.size (fun g hg => row_block HA.out g hg)
                        have hown8 := HB.out.kept hgrow (rows_apart HB.out HA.out (by decide))
                        have H15 := Lib.hid (has_grown hgrow H15.out (row_has_apart HA.out H15.out (by decide)))
                        have HS := Lib.hid hS7
                        obtain ⟨a1', c1', rfl, _, _⟩ := row_reads hown
                        have HA := Lib.hid hown; have HB := Lib.hid hown8
                        clear hown hown8 hgrow hS7
                        refine hK _ _ ?_ (fun hS2 => ?_)
                        focus (exact HS.out)
                        clear hK K hS2
                        try simp only [Act.put, List.setIfInBounds_toArray, List.set_cons_zero, List.set_cons_succ]
                        refine wpT_make rfl (fun K hK => ?_)
                        refine wp_append_own (P := Try.prog) _ _ _ _ rfl Z2.heap.size 82 i21 (.agg #[.int .i64 0, .int .i64 0, .int .i64 0, .int .i64 0]) 4 32 Try.underlying91 hi21 z21 z21b z21c rfl (by decide) _ _ _ rfl HB.out ⟨wr.heap.size, 0, none⟩ 1 1 [.int .i64 x0, .int .i64 x1, .int .i64 x2, .int .i64 x3] rfl rfl (news_has H15.out) (one_of rfl) (by unfold maxLen; omega) (by omega) HS.out.size ?_
                        intro v16 w16 hown hgrow hnil
                        clear hnil
                        have hS7 : Below Z2.heap.size Z2 w16 := HS.out.grown hgrow HS.out.size (fun g hg => row_block HB.out g hg)
                        have hown8 := HA.out.kept hgrow (rows_apart HA.out HB.out (by decide))
                        have HS := Lib.hid hS7
                        obtain ⟨a2', c2', rfl, _, _⟩ := row_reads hown
                        have HB := Lib.hid hown; have HA := Lib.hid hown8
                        clear hown hown8 hgrow hS7
                        refine hK _ _ ?_ (fun hS2 => ?_)
                        focus (exact HS.out)
                        clear hK K hS2
                        try simp only [Act.put, List.setIfInBounds_toArray, List.set_cons_zero, List.set_cons_succ]
                        refine wpT_make rfl (fun K hK => ?_)
                        go_simp
                        refine hK _ _ ?_ (fun hS2 => ?_)
                        focus (exact HS.out)
                        clear hK K hS2
                        try simp only [Act.put, List.setIfInBounds_toArray, List.set_cons_zero, List.set_cons_succ]
                        refine wpT_make rfl (fun K hK => ?_)
                        go_simp
                        refine hK _ _ ?_ (fun hS2 => ?_)
                        focus (exact HS.out)
                        clear hK K hS2
                        try simp only [Act.put, List.setIfInBounds_toArray, List.set_cons_zero, List.set_cons_succ]
                        refine wpT_nil ?_
                        clear hca0 hfa0 hoa0 H7 H15
                        go_wp2_with fail
                        refine ⟨⟨j + 1, a1', c1', a2', c2', by push_cast; rfl, j1, j2, rfl, rfl, ?_, ?_, HS.out⟩, by simp only [intOf]; omega⟩
                        · rw [HSN.out, rectCells_snoc]; exact HA.out
                        · rw [HSN.out, rectCells_snoc]; exact HB.out
              · have j3 : (j : Int) < nI := by omega
                have j4 : (j : Int) < 8 := by omega
                have j5 : (0 : Int) ≤ j := by omega
                obtain ⟨bi, offi, rfl, hbi, hci⟩ := HIL.out (by omega)
                obtain ⟨mc, m0, m1, m2, m3, m4⟩ := hci j j1
                have obi : Old Z bi := hbi
                have HSN := Lib.hid (take_snocZ item0 j1)
                clear hci
                generalize I.getD j item0 = q at *
                obtain ⟨nd, pt, ⟨q0, q1, q2, q3⟩, qc⟩ := q
                simp only at m0 m1 m2 m3 m4 mc
                obtain ⟨mc1, mc2⟩ := mc
                go_wp2_with fail
                refine region_ordS (S := fun wx => Below Z.heap.size Z wx) HBJ.out.drew [(0, 0), (1, 0), (2, 0), (3, 0), (4, 0), (5, 0), (6, 0), (8, 0), (9, 0), (10, 0), (11, 0), (12, 0), (13, 0), (7, 1), (14, 0), (15, 1), (16, 1), (17, 2)] (by kernel_rfl) (by kernel_rfl) (fun _ _ d _ _ h => by cases d <;> exact h) (fun hS => ?_)
                iterate 13
                  (refine wpG_read (v := ?_) rfl (.inl ⟨by rfl, fun wx hbx => ?_⟩) ?_; rotate_left; (focus (obtain ⟨hca, hfa, hoa⟩ := bcell3 hbx; go_simp; (try go_bits); (try with_reducible rfl))); try simp only [Act.put, List.setIfInBounds_toArray, List.set_cons_zero, List.set_cons_succ])
                refine wpG_make rfl (fun K hK => ?_)
                go_simp
                (go_at_call 41; (with_reducible refine (told28_any _ _ _ _ _).mono ?_); rintro e v1 ⟨rfl, hb⟩; have hz := hb.size; refine (fun hB => ?_ : Below wr.heap.size wr v1 → _) ?_; rotate_left; (focus ((repeat' (first | (with_reducible exact Below.refl _ _) | (with_reducible assumption) | (with_reducible refine below_from_drew ?_) | (with_reducible refine Below.alloc ?_ ?_ _) | (with_reducible refine Below.drew ?_) | (with_reducible refine below_drewN ?_ _) | (with_reducible refine Below.setCell ?_ ?_ _) | (with_reducible refine below_via ?_ (by assumption) ?_) | (with_reducible refine below_ov ?_ ?_ _ _) | go_size)); done)); (try simp only [World.size_alloc, World.size_setCell, World.size_drew, ov_size] at hz))
                refine hK _ _ ?_ (fun hS2 => ?_)
                focus (exact HBJ.out.trans (hB.mono hzj))
                clear hK K hS; have hS := hS2; clear hS2
                have HO1v := Lib.hid (row_below hB HO1.out); have HO2v := Lib.hid (row_below hB HO2.out)
                have hzv : Z.heap.size ≤ v1.heap.size := hS.size
                clear hb hB hz
                try simp only [Act.put, List.setIfInBounds_toArray, List.set_cons_zero, List.set_cons_succ]
                (refine wpG_read (v := ?_) rfl (.inl ⟨by rfl, fun wx hbx => ?_⟩) ?_; rotate_left; (focus (obtain ⟨hca, hfa, hoa⟩ := bcell3 hbx; go_simp; (try go_bits); (try with_reducible rfl))); try simp only [Act.put, List.setIfInBounds_toArray, List.set_cons_zero, List.set_cons_succ])
                refine wpG_make rfl (fun K hK => ?_)
                go_simp
                refine hK _ _ ?_ (fun hS2 => ?_)
                focus (exact hS.alloc hzv _)
                clear hK K hS; have hS := hS2; clear hS2
                try simp only [Act.put, List.setIfInBounds_toArray, List.set_cons_zero, List.set_cons_succ]
                refine wpG_make rfl (fun K hK => ?_)
                refine wp_append_own (P := Try.prog) _ _ _ _ rfl Z.heap.size 88 i17 (.agg #[.int .i64 0, .int .i64 0, .int .i64 0, .int .i64 0, .int .i64 0, .int .i64 0, .int .u8 0]) 7 56 Try.underlying83 hi17 z17 z17b z17c rfl (by decide) _ _ _ rfl (HO1v.out.alloc _) ⟨v1.heap.size, 0, none⟩ 1 1 [.int .i64 0, .int .i64 0, .int .i64 q0, .int .i64 q1, .int .i64 q2, .int .i64 q3, .int .u8 qc] rfl rfl (newi_at (by simp)) (one_of rfl) (by unfold maxLen; omega) (by omega) (by simp; omega) ?_
                intro v7 w7 hown7 hgrow7 hnil7
                clear hnil7
                have hS7 : Below Z.heap.size Z w7 := hS.grown hgrow7 (by simp; omega) (fun g hg => row_block HO1v.out g hg)
                refine hK _ _ ?_ (fun hS2 => ?_)
                focus (exact hS7)
                clear hK K hS hS2
                try simp only [Act.put, List.setIfInBounds_toArray, List.set_cons_zero, List.set_cons_succ]
                obtain ⟨a1', c17', rfl, _, _⟩ := row_reads hown7
                have hown8 := (HO2v.out.alloc (.cells #[.int .i64 0, .int .i64 0, .int .i64 q0, .int .i64 q1, .int .i64 q2, .int .i64 q3, .int .u8 qc] 88)).kept hgrow7 (rows_apart (HO2v.out.alloc _) (HO1v.out.alloc (.cells #[.int .i64 0, .int .i64 0, .int .i64 q0, .int .i64 q1, .int .i64 q2, .int .i64 q3, .int .u8 qc] 88)) (by decide))
                have HO17 := Lib.hid hown7; have HO18 := Lib.hid hown8; have HS7 := Lib.hid hS7
                clear hown7 hown8 hgrow7 hS7
                refine wpG_late rfl (fun K hK => ?_)
                go_simp
                refine hK _ _ ?_
                clear hK K
                try simp only [Act.put, List.setIfInBounds_toArray, List.set_cons_zero, List.set_cons_succ]
                refine wpG_nil ?_
                clear hca0 hfa0 hoa0
                obtain ⟨hca1, hfa1, hoa1⟩ := bcell3 HS7.out
                go_wp2_with fail
                have mw : wrap64 qc = qc := by unfold wrap64; omega
                have hzw : Z.heap.size ≤ w7.heap.size := HS7.out.size
                refine region_ordS (S := fun wx => Below Z.heap.size Z wx) HS7.out.drew [(0, 0), (1, 0), (2, 0), (3, 0), (4, 0), (5, 0), (6, 0), (7, 0), (8, 0), (9, 0), (10, 0), (11, 0), (12, 0), (13, 0), (14, 0), (15, 1), (16, 1), (17, 2)] (by kernel_rfl) (by kernel_rfl) (fun _ _ d _ _ h => by cases d <;> exact h) (fun hS => ?_)
                iterate 15
                  (refine wpG_read (v := ?_) rfl (.inl ⟨by rfl, fun wx hbx => ?_⟩) ?_; rotate_left; (focus (obtain ⟨hca, hfa, hoa⟩ := bcell3 hbx; go_simp; (try go_bits); (try with_reducible rfl))); try simp only [Act.put, List.setIfInBounds_toArray, List.set_cons_zero, List.set_cons_succ])
                refine wpG_make rfl (fun K hK => ?_)
                go_simp
                refine hK _ _ ?_ (fun hS2 => ?_)
                focus (exact hS.alloc hzw _)
                clear hK K hS; have hS := hS2; clear hS2
                try simp only [Act.put, List.setIfInBounds_toArray, List.set_cons_zero, List.set_cons_succ]
                refine wpG_make rfl (fun K hK => ?_)
                refine wp_append_own (P := Try.prog) _ _ _ _ rfl Z.heap.size 90 i18 (.agg #[.int .i64 0, .int .i64 0, .int .i64 0, .int .i64 0, .int .i64 0]) 5 40 Try.underlying84 hi18 z18 z18b z18c rfl (by decide) _ _ _ rfl (HO18.out.drew.alloc _) ⟨w7.heap.size, 0, none⟩ 1 1 [.int .i64 q0, .int .i64 q1, .int .i64 q2, .int .i64 q3, .int .i64 qc] rfl rfl (newi_at (by simp)) (one_of rfl) (by unfold maxLen; omega) (by omega) (by simp; omega) ?_
                intro v8 w8 hown7 hgrow7 hnil7
                clear hnil7
                have hS8 : Below Z.heap.size Z w8 := hS.grown hgrow7 (by simp; omega) (fun g hg => row_block HO18.out g hg)
                refine hK _ _ ?_ (fun hS2 => ?_)
                focus (exact hS8)
                clear hK K hS hS2
                try simp only [Act.put, List.setIfInBounds_toArray, List.set_cons_zero, List.set_cons_succ]
                obtain ⟨a2', c18', rfl, _, _⟩ := row_reads hown7
                have hown8 := (HO17.out.drew.alloc (.cells #[.int .i64 q0, .int .i64 q1, .int .i64 q2, .int .i64 q3, .int .i64 qc] 90)).kept hgrow7 (rows_apart (HO17.out.drew.alloc _) (HO18.out.drew.alloc (.cells #[.int .i64 q0, .int .i64 q1, .int .i64 q2, .int .i64 q3, .int .i64 qc] 90)) (by decide))
                have HP17 := Lib.hid hown8; have HP18 := Lib.hid hown7; have HS8 := Lib.hid hS8
                clear hown7 hown8 hgrow7 hS8
                refine wpG_late rfl (fun K hK => ?_)
                go_simp
                refine hK _ _ ?_
                clear hK K
                try simp only [Act.put, List.setIfInBounds_toArray, List.set_cons_zero, List.set_cons_succ]
                refine wpG_nil ?_
                clear hca1 hfa1 hoa1 mw
                go_wp2_with fail
                refine ⟨⟨j + 1, a1', c17', a2', c18', by push_cast; rfl, j1, j2, rfl, rfl, ?_, ?_, HS8.out⟩, by simp only [intOf]; omega⟩
                · rw [HSN.out]; unfold itCells; rw [List.flatMap_append]; exact HP17.out
                · rw [HSN.out]; unfold riCells; rw [List.flatMap_append]; exact HP18.out
        case rest =>
          obtain ⟨f1, g1, al1, ca1, h1, h9, hp1, he1, hcp, h13, hp, hb⟩ := hcut
          have C1 := Lib.hid (fun u (hu : Below wc.heap.size wc u) => same28_any L f1 g1 al1 m ca1 u (by rw [HLW.out, HLH.out]; exact ⟨hW2, hH2⟩) (by rw [HLW.out, HLH.out]; exact HMM.out) (h1.below hu) (by rw [HLW.out, HLH.out]; exact hp1.below hu) (by rw [HLW.out, HLH.out]; exact he1))
          have C2 := Lib.hid (fun u (hu : Below wc.heap.size wc u) => same28_any M f g al m ca u (by rw [hcp.W, hcp.H, HLW.out, HLH.out]; exact ⟨hW2, hH2⟩) (by rw [hcp.W, hcp.H, HLW.out, HLH.out]; exact HMM.out) (hcp.img.below hu) (by rw [hcp.W, hcp.H, HLW.out, HLH.out]; exact hp.below hu) (by rw [hcp.W, hcp.H, HLW.out, HLH.out]; exact HEQ.out))
          rw [HLW.out, HLH.out] at C1
          rw [hcp.W, hcp.H, HLW.out, HLH.out] at C2
          have e9 := h9.cells; have l9 := h9.lt; have o9 : Old wc p9 := l9
          have e13 := h13.cells; have l13 := h13.lt; have o13 : Old wc p13 := l13
          have H1 := Lib.hid h1; have H9 := Lib.hid h9; have HP1 := Lib.hid hp1; have HE1 := Lib.hid he1; have HBB := Lib.hid hb
          have hzc : w.heap.size ≤ wc.heap.size := hb.size
          clear h1 h9 hp1 he1 hcp h13 hp hb e11 l11 o11
          go_wp2_with (first | (((go_at_call 45; (with_reducible refine (C1.out _ (by (repeat' (first | (with_reducible exact Below.refl _ _) | (with_reducible assumption) | (with_reducible refine below_from_drew ?_) | (with_reducible refine Below.alloc ?_ ?_ _) | (with_reducible refine Below.drew ?_) | (with_reducible refine below_drewN ?_ _) | (with_reducible refine Below.setCell ?_ ?_ _) | (with_reducible refine below_via ?_ (by assumption) ?_) | (with_reducible refine below_ov ?_ ?_ _ _) | go_size)))).mono ?_); rintro e s1 ⟨rfl, hb⟩; have hz := hb.size; refine (fun hB => ?_ : Below wc.heap.size wc s1 → _) ?_; rotate_left; (focus ((repeat' (first | (with_reducible exact Below.refl _ _) | (with_reducible assumption) | (with_reducible refine below_from_drew ?_) | (with_reducible refine Below.alloc ?_ ?_ _) | (with_reducible refine Below.drew ?_) | (with_reducible refine below_drewN ?_ _) | (with_reducible refine Below.setCell ?_ ?_ _) | (with_reducible refine below_via ?_ (by assumption) ?_) | (with_reducible refine below_ov ?_ ?_ _ _) | go_size)); done)); (try simp only [World.size_alloc, World.size_setCell, World.size_drew, ov_size] at hz))); obtain ⟨hca, hfa, hoa⟩ := bcell3 hB) | (((go_at_call 45; (with_reducible refine (C2.out _ (by (repeat' (first | (with_reducible exact Below.refl _ _) | (with_reducible assumption) | (with_reducible refine below_from_drew ?_) | (with_reducible refine Below.alloc ?_ ?_ _) | (with_reducible refine Below.drew ?_) | (with_reducible refine below_drewN ?_ _) | (with_reducible refine Below.setCell ?_ ?_ _) | (with_reducible refine below_via ?_ (by assumption) ?_) | (with_reducible refine below_ov ?_ ?_ _ _) | go_size)))).mono ?_); rintro e s2 ⟨rfl, hb⟩; have hz := hb.size; refine (fun hB => ?_ : Below wc.heap.size wc s2 → _) ?_; rotate_left; (focus ((repeat' (first | (with_reducible exact Below.refl _ _) | (with_reducible assumption) | (with_reducible refine below_from_drew ?_) | (with_reducible refine Below.alloc ?_ ?_ _) | (with_reducible refine Below.drew ?_) | (with_reducible refine below_drewN ?_ _) | (with_reducible refine Below.setCell ?_ ?_ _) | (with_reducible refine below_via ?_ (by assumption) ?_) | (with_reducible refine below_ov ?_ ?_ _ _) | go_size)); done)); (try simp only [World.size_alloc, World.size_setCell, World.size_drew, ov_size] at hz))); obtain ⟨hca, hfa, hoa⟩ := bcell3 hB))
          refine ⟨⟨i + 1, f1, g1, al1, ca1, by push_cast; rfl, c1, c2, H1.out.below hB, ?_, HP1.out.below hB, HE1.out, HBB.out.trans (hB.mono hzc)⟩, by simp only [intOf]; omega⟩
          rw [HMM.out]
          exact has_below hB H9.out
end Go.Proofs.Ytkpamofamcndnaa
namespace Go.Proofs.Ytkpamofamcndnaa
open Go Go.RowKit
theorem rplays_row (x y : Int) (a : Option Addr) (n c : Nat) (l : List ActR) (w : World) (hx : (Lit.int .u8 x).wf = true) (hy : (Lit.int .u8 y).wf = true) (hn : l.length = n) (hn1 : n ≤ c) (hc : c ≤ 9223372036854775807) (h : ActsR w a l) :
    Calls Try.prog 6 #[.int .u8 x, .int .u8 y, .slice a n c] w fun e w' => e = .returned (.bool true) ∧ Below w.heap.size w w' :=
  rplays_any a n c l x y w (wf_u8r hx) (wf_u8r hy) hn hn1 hc h
end Go.Proofs.Ytkpamofamcndnaa
