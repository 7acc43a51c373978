/- package raster: Paint by contract. package raster: Paint of no image. -/
import Derived.Test.YtkpamofamcndnaaRasC
import Derived.Test.YtkpamofamcndnaaRegFar
namespace Go.Proofs.Ytkpamofamcndnaa
open Go.RowKit Go.Shelf
set_option linter.unusedSimpArgs false
set_option linter.unusedVariables false
-- below_from_drew
attribute [local go_sem] ov_cell_same ov_cell_other ov_frozen_same ov_frozen_other ov_size ov_setCell_same ov_setCell_other cell_alloc_old frozen_alloc_old setCell_alloc_old old_alloc old_ov old_drew old_drewN old_setCell
attribute [local go_sem ↓] run_max2 run_min2 eql_rect eq_nil8
/-- An item that is painted. -/
structure ItemZ where
  (nd pt : Int)
  r : RectQ
  c : Int
def item0 : ItemZ := ⟨0, 0, (0, 0, 0, 0), 0⟩
def ItemsT (w : World) (a : Option Addr) (l : List ItemZ) : Prop := 0 < l.length → ∃ b off cs, a = some ⟨b, off, none⟩ ∧ Has w b cs 88 ∧ ∀ i, i < l.length → (0 ≤ (l.getD i item0).c ∧ (l.getD i item0).c ≤ 255) ∧ cs[off + i * 7]? = some (.int .i64 (l.getD i item0).nd) ∧ cs[off + i * 7 + 1]? = some (.int .i64 (l.getD i item0).pt) ∧ cs[off + i * 7 + 2]? = some (.int .i64 (l.getD i item0).r.1) ∧ cs[off + i * 7 + 3]? = some (.int .i64 (l.getD i item0).r.2.1) ∧ cs[off + i * 7 + 4]? = some (.int .i64 (l.getD i item0).r.2.2.1) ∧ cs[off + i * 7 + 5]? = some (.int .i64 (l.getD i item0).r.2.2.2) ∧ cs[off + i * 7 + 6]? = some (.int .u8 (l.getD i item0).c)
def RectsT (w : World) (a : Option Addr) (l : List RectQ) : Prop := 0 < l.length → ∃ b off cs, a = some ⟨b, off, none⟩ ∧ Has w b cs 40 ∧ ∀ i, i < l.length → cs[off + i * 4]? = some (.int .i64 (l.getD i q0Z).1) ∧ cs[off + i * 4 + 1]? = some (.int .i64 (l.getD i q0Z).2.1) ∧ cs[off + i * 4 + 2]? = some (.int .i64 (l.getD i q0Z).2.2.1) ∧ cs[off + i * 4 + 3]? = some (.int .i64 (l.getD i q0Z).2.2.2)
theorem ItemsT.below {w w1 : World} {a : Option Addr} {l : List ItemZ} (h : ItemsT w a l) (hb : Below w.heap.size w w1) : ItemsT w1 a l := fun h0 => by
  obtain ⟨b, off, cs, e, h1, h2⟩ := h h0
  exact ⟨b, off, cs, e, has_below hb h1, h2⟩
theorem ItemsT.buts {w w1 : World} {S : Nat → Prop} {n : Nat} {a : Option Addr} {l : List ItemZ} (h : ItemsT w a l) (hb : ButS S n w w1) (hn : n = w.heap.size) (hS : ∀ b cs, S b → Has w b cs 88 → False) : ItemsT w1 a l := fun h0 => by
  obtain ⟨b, off, cs, e, h1, h2⟩ := h h0
  exact ⟨b, off, cs, e, hb.has h1 (hn ▸ h1.lt) (fun q => hS b cs q h1), h2⟩
theorem RectsT.buts {w w1 : World} {S : Nat → Prop} {n : Nat} {a : Option Addr} {l : List RectQ} (h : RectsT w a l) (hb : ButS S n w w1) (hn : n = w.heap.size) (hS : ∀ b cs, S b → Has w b cs 40 → False) : RectsT w1 a l := fun h0 => by
  obtain ⟨b, off, cs, e, h1, h2⟩ := h h0
  exact ⟨b, off, cs, e, hb.has h1 (hn ▸ h1.lt) (fun q => hS b cs q h1), h2⟩
theorem rectsT_owned {w : World} {base n c : Nat} {a : Option Addr} {l : List RectQ} (h : w.ownsRow base 40 4 (.slice a n c) n (rectCells l)) (hn : l.length = n) : RectsT w a l := fun h0 => by
  rcases h.2 with ⟨e, h2⟩ | ⟨g, cap', cur, e, hb, hh, hnc, hcm, hcs, ht⟩
  · cases e; omega
  · cases e
    have hq : ∀ i k, i < l.length → k < 4 → cur[0 + i * 4 + k]? = (rectV (l.getD i q0Z))[k]? := fun i k hi hk => by
      have q : (cur.toList.take (n * 4))[i * 4 + k]? = (rectV (l.getD i q0Z))[k]? := by rw [ht]; exact rectCells_get l hi hk
      rw [List.getElem?_take_of_lt (by omega), Array.getElem?_toList] at q
      rw [Nat.zero_add]
      exact q
    exact ⟨g, 0, cur, rfl, hh, fun i hi => ⟨hq i 0 hi (by omega), hq i 1 hi (by omega), hq i 2 hi (by omega), hq i 3 hi (by omega)⟩⟩
/-- One rectangle painted, plainly; all of them. -/
def itemsR (r : RectQ) (l : List ItemZ) (f : Nat → Nat → Int) : Nat → Nat → Int := l.foldl (fun g x => fillF (andQ x.r r) x.c g) f
def paintR (W H : Nat) (l : List ItemZ) (q : RectQ) (f : Nat → Nat → Int) : Nat → Nat → Int := itemsR (andQ q (wholeQ W H)) l (fillF (andQ q (wholeQ W H)) 0 f)
def paintF (W H : Nat) (l : List ItemZ) (R : List RectQ) (f : Nat → Nat → Int) : Nat → Nat → Int := R.foldl (fun g q => paintR W H l q g) f
theorem itemsR_take {r : RectQ} {l : List ItemZ} {f : Nat → Nat → Int} {k : Nat} (h : k < l.length) : itemsR r (l.take (k + 1)) f = fillF (andQ (l.getD k item0).r r) (l.getD k item0).c (itemsR r (l.take k) f) := by
  unfold itemsR
  rw [List.take_succ_eq_append_getElem h, List.foldl_append]
  simp [List.getD_eq_getElem?_getD, h]
theorem paintF_take {W H : Nat} {l : List ItemZ} {R : List RectQ} {f : Nat → Nat → Int} {k : Nat} (h : k < R.length) : paintF W H l (R.take (k + 1)) f = paintR W H l (R.getD k q0Z) (paintF W H l (R.take k) f) := by
  unfold paintF
  rw [List.take_succ_eq_append_getElem h, List.foldl_append]
  simp [List.getD_eq_getElem?_getD, h]
theorem inQ_whole {W H : Nat} (hs : W ≤ 1024 ∧ H ≤ 1024) : InQ W H (wholeQ W H) := whole_within hs.1 hs.2
theorem InQ.and {W H : Nat} {p q : RectQ} (h : InQ W H q) : InQ W H (andQ p q) := and_within h.1 h.2
/-- Where the loops of Paint stand. -/
def PntO (X : World) (L : ImgL) (l : List ItemZ) (R : List RectQ) (f : Nat → Nat → Int) (iv : Value) (wr : World) : Prop :=
  ∃ i : Nat, iv = .int .i64 i ∧ i ≤ R.length ∧ ImgAt wr L (paintF L.W L.H l (R.take i) f) ∧ ButS L.S X.heap.size X wr
def PntI (X : World) (L : ImgL) (l : List ItemZ) (r : RectQ) (p7 : Nat) (f : Nat → Nat → Int) (iv : Value) (wr : World) : Prop :=
  ∃ i : Nat, iv = .int .i64 i ∧ i ≤ l.length ∧ ImgAt wr L (itemsR r (l.take i) f) ∧ ButS L.S X.heap.size X wr ∧ Has wr p7 #[.int .i64 r.1, .int .i64 r.2.1, .int .i64 r.2.2.1, .int .i64 r.2.2.2] 40
theorem and_val (p q : RectQ) (w : World) : Calls Try.prog 32 #[rectVal p, rectVal q] w fun e w' => e = .returned (rectVal (andQ p q)) ∧ Below w.heap.size w w' := and_n _ _ _ _ _ _ _ _ w
set_option maxRecDepth 100000 in
set_option maxHeartbeats 4000000 in
theorem paint8_any (L : ImgL) (f : Nat → Nat → Int) (a al : Option Addr) (n c ca : Nat) (l : List ItemZ) (B : List BandZ) (R : List RectQ) (w : World) (h : ImgAt w L f) (hn : l.length = n) (hn2 : n ≤ 1000000000000) (hl : ItemsT w a l) (hB : RegOk B) (hbs : BandsAt w al B) (hR : rectsZ B = R) (hRl : R.length ≤ 1000000000000) :
    Calls Try.prog 43 #[ptrTo L.p, .slice a n c, .agg #[.slice al B.length ca]] w fun e w' => e = .returned (.tuple #[]) ∧ ImgAt w' L (paintF L.W L.H l R f) ∧ ButS L.S w.heap.size w w' := by
  have HRC := Lib.hid (fun u (hb : Below w.heap.size w u) => rects_own al B.length ca B u hB rfl (hbs.below hb) R hR hRl)
  have HA := Lib.hid h; have HL := Lib.hid hl; have HN := Lib.hid hn
  have hsm := h.small
  clear h hl hB hbs hR hn
  go_enter Try.func43, Try.ntmps43
  go_wp2_with (go_at_call 26; (with_reducible refine (HRC.out _ (by (repeat' (first | (with_reducible exact Below.refl _ _) | (with_reducible assumption) | (with_reducible refine below_from_drew ?_) | (with_reducible refine Below.alloc ?_ ?_ _) | (with_reducible refine Below.drew ?_) | (with_reducible refine below_drewN ?_ _) | (with_reducible refine Below.setCell ?_ ?_ _) | (with_reducible refine below_via ?_ (by assumption) ?_) | (with_reducible refine below_ov ?_ ?_ _ _) | go_size)))).mono ?_); rintro e X ⟨ar, cr, rfl, hr, hb⟩; have hz := hb.size; refine (fun hB => ?_ : Below w.heap.size w X → _) ?_; rotate_left; (focus ((repeat' (first | (with_reducible exact Below.refl _ _) | (with_reducible assumption) | (with_reducible refine below_from_drew ?_) | (with_reducible refine Below.alloc ?_ ?_ _) | (with_reducible refine Below.drew ?_) | (with_reducible refine below_drewN ?_ _) | (with_reducible refine Below.setCell ?_ ?_ _) | (with_reducible refine below_via ?_ (by assumption) ?_) | (with_reducible refine below_ov ?_ ?_ _ _) | go_size)); done)); (try simp only [World.size_alloc, World.size_setCell, World.size_drew, ov_size] at hz))
  have HAX := Lib.hid (HA.out.below hB); have HLX := Lib.hid (HL.out.below hB); have HRX := Lib.hid (rectsT_owned hr rfl)
  have HBX := Lib.hid hB
  clear hb hB hr HRC HA HL
  have hzX : w.heap.size ≤ X.heap.size := HBX.out.size
  clear hz
  have hw0 : wholeQ L.W L.H = wholeQ L.W L.H := rfl
  have hwq := inQ_whole hsm
  obtain ⟨Wq, hWq⟩ : ∃ q, wholeQ L.W L.H = q := ⟨_, rfl⟩
  rw [hWq] at hwq
  have HWH := Lib.hid (fun (u : World) (g : Nat → Nat → Int) (hg : ImgAt u L g) => whole_any L g u hg Wq hWq)
  have HWQ := Lib.hid hwq; have HWE := Lib.hid hWq
  clear hwq hWq hw0
  obtain ⟨v0, v1, v2, v3⟩ := Wq
  simp only [rectVal] at HWH
  go_loopw [13] (fun iv wr => PntO X L l R f iv wr) (fun iv _ => R.length - (intOf iv).toNat)
  case atStart => exact ⟨0, rfl, Nat.zero_le _, HAX.out, ButS.refl _ _ _⟩
  case round =>
    unfold PntO at hrel
    obtain ⟨i, rfl, hi, him, hbut⟩ := hrel
    have hzr := hbut.size
    have HI := Lib.hid him; have HB := Lib.hid hbut
    clear him hbut
    rcases Nat.lt_or_ge i R.length with c1 | c1
    · have c2 : (i : Int) < R.length := by omega
      have hrt := HRX.out.buts HB.out rfl (fun b cs q hh => HAX.out.S_not hh (by decide) q)
      obtain ⟨br, offr, cs, rfl, hbr, hcs⟩ := hrt (by omega)
      obtain ⟨k0, k1, k2, k3⟩ := hcs i c1
      have k0 := (hbr.cells _).trans k0; have k1 := (hbr.cells _).trans k1; have k2 := (hbr.cells _).trans k2; have k3 := (hbr.cells _).trans k3
      have lbr := hbr.lt; have obr : Old wr br := lbr
      have HPF := Lib.hid (paintF_take (W := L.W) (H := L.H) (l := l) (f := f) c1)
      generalize hq : R.getD i q0Z = q at *
      have HQ := Lib.hid hq
      clear hq hcs hbr hrt
      obtain ⟨q0, q1, q2, q3⟩ := q
      simp only at k0 k1 k2 k3
      obtain ⟨⟨e0, e1, e2, e3⟩, hE⟩ : ∃ r, andQ (q0, q1, q2, q3) (v0, v1, v2, v3) = r := ⟨_, rfl⟩
      have HAN := Lib.hid (fun u => and_val (q0, q1, q2, q3) (v0, v1, v2, v3) u)
      have hin : InQ L.W L.H (andQ (q0, q1, q2, q3) (v0, v1, v2, v3)) := HWQ.out.and
      rw [hE] at HAN hin
      simp only [rectVal] at HAN
      have HIN := Lib.hid hin
      have HEE := Lib.hid hE
      clear hin hE
      go_wp2_with fail
      refine region_ord [(0, 0), (1, 0), (2, 1), (3, 1), (4, 2)] (by kernel_rfl) (by kernel_rfl) (fun _ _ d _ _ h => by cases d <;> exact h) (fun hS => ?_)
      (refine wpG_read (v := ?_) rfl (.inl ⟨by rfl, fun wx hbx => ?_⟩) ?_; rotate_left; (focus (obtain ⟨cx0, fx0, zx0⟩ := bk hbx (wr.heap.size) (by first | omega | (simp; done) | (simp; omega)); go_simp; (try go_bits); (try with_reducible rfl))); try simp only [Act.put, List.setIfInBounds_toArray, List.set_cons_zero, List.set_cons_succ])
      (refine wpG_read (v := ?_) rfl (.inl ⟨by rfl, fun wx hbx => ?_⟩) ?_; rotate_left; (focus (obtain ⟨cx0, fx0, zx0⟩ := bk hbx (wr.heap.size) (by first | omega | (simp; done) | (simp; omega)); go_simp; (try go_bits); (try with_reducible rfl))); try simp only [Act.put, List.setIfInBounds_toArray, List.set_cons_zero, List.set_cons_succ])
      (refine wpG_make rfl (fun K hK => ?_); go_simp; (go_at_call 67; (with_reducible refine (HWH.out _ _ (HI.out.below (by (repeat' (first | (with_reducible exact Below.refl _ _) | (with_reducible assumption) | (with_reducible refine below_from_drew ?_) | (with_reducible refine Below.alloc ?_ ?_ _) | (with_reducible refine Below.drew ?_) | (with_reducible refine below_drewN ?_ _) | (with_reducible refine Below.setCell ?_ ?_ _) | (with_reducible refine below_via ?_ (by assumption) ?_) | (with_reducible refine below_ov ?_ ?_ _ _) | go_size))))).mono ?_); rintro e w1 ⟨rfl, hb⟩; refine Exists.elim (after1 (w := wr) (b0 := wr.heap.size) (cs0 := ?_) (T0 := ?_) hb ?_ ?_) ?_; rotate_left 2; (focus ((repeat' (first | (with_reducible exact Below.refl _ _) | (with_reducible assumption) | (with_reducible refine below_from_drew ?_) | (with_reducible refine Below.alloc ?_ ?_ _) | (with_reducible refine Below.drew ?_) | (with_reducible refine below_drewN ?_ _) | (with_reducible refine Below.setCell ?_ ?_ _) | (with_reducible refine below_via ?_ (by assumption) ?_) | (with_reducible refine below_ov ?_ ?_ _ _) | go_size)); done)); (focus ((repeat' (first | (with_reducible refine has_drew ?_) | (with_reducible refine has_drewN ?_) | (with_reducible refine has_new ?_; (first | (with_reducible rfl) | omega | (simp; done) | (simp; omega))) | (with_reducible refine has_ov_same ?_; (first | (with_reducible rfl) | omega | (simp; done) | (simp; omega))) | (with_reducible refine has_alloc ?_) | (with_reducible refine has_ov_other ?_ ?_; (focus (first | (with_reducible rfl) | omega | (simp; done) | (simp; omega)))) | (with_reducible assumption) | (with_reducible exact has_below hB (by assumption)))); done)); rintro u1 ⟨rfl, hB, hz, z0, o0⟩; (try simp only [World.size_alloc, World.size_setCell, World.size_drew, ov_size] at hz)); (try simp only []); refine hK _ _ ?_ (fun hS2 => ?_); (focus ((repeat' (first | (with_reducible exact Below.refl _ _) | (with_reducible assumption) | (with_reducible refine below_from_drew ?_) | (with_reducible refine Below.alloc ?_ ?_ _) | (with_reducible refine Below.drew ?_) | (with_reducible refine below_drewN ?_ _) | (with_reducible refine Below.setCell ?_ ?_ _) | (with_reducible refine below_via ?_ (by assumption) ?_) | (with_reducible refine below_ov ?_ ?_ _ _) | go_size)); done)); clear hK K hS; have hS := hS2; clear hS2; (try clear hb); try simp only [Act.put, List.setIfInBounds_toArray, List.set_cons_zero, List.set_cons_succ])
      (refine wpG_make rfl (fun K hK => ?_); go_simp; (go_at_call 32; (with_reducible refine (HAN.out _).mono ?_); rintro e w1 ⟨rfl, hb⟩; refine Exists.elim (after1 (w := wr) (b0 := wr.heap.size) (cs0 := ?_) (T0 := ?_) hb ?_ ?_) ?_; rotate_left 2; (focus ((repeat' (first | (with_reducible exact Below.refl _ _) | (with_reducible assumption) | (with_reducible refine below_from_drew ?_) | (with_reducible refine Below.alloc ?_ ?_ _) | (with_reducible refine Below.drew ?_) | (with_reducible refine below_drewN ?_ _) | (with_reducible refine Below.setCell ?_ ?_ _) | (with_reducible refine below_via ?_ (by assumption) ?_) | (with_reducible refine below_ov ?_ ?_ _ _) | go_size)); done)); (focus ((repeat' (first | (with_reducible refine has_drew ?_) | (with_reducible refine has_drewN ?_) | (with_reducible refine has_new ?_; (first | (with_reducible rfl) | omega | (simp; done) | (simp; omega))) | (with_reducible refine has_ov_same ?_; (first | (with_reducible rfl) | omega | (simp; done) | (simp; omega))) | (with_reducible refine has_alloc ?_) | (with_reducible refine has_ov_other ?_ ?_; (focus (first | (with_reducible rfl) | omega | (simp; done) | (simp; omega)))) | (with_reducible assumption) | (with_reducible exact has_below hB (by assumption)))); done)); rintro u2 ⟨rfl, hB, hz, z0, o0⟩; (try simp only [World.size_alloc, World.size_setCell, World.size_drew, ov_size] at hz)); (try simp only []); refine hK _ _ ?_ (fun hS2 => ?_); (focus ((repeat' (first | (with_reducible exact Below.refl _ _) | (with_reducible assumption) | (with_reducible refine below_from_drew ?_) | (with_reducible refine Below.alloc ?_ ?_ _) | (with_reducible refine Below.drew ?_) | (with_reducible refine below_drewN ?_ _) | (with_reducible refine Below.setCell ?_ ?_ _) | (with_reducible refine below_via ?_ (by assumption) ?_) | (with_reducible refine below_ov ?_ ?_ _ _) | go_size)); done)); clear hK K hS; have hS := hS2; clear hS2; (try clear hb); try simp only [Act.put, List.setIfInBounds_toArray, List.set_cons_zero, List.set_cons_succ])
      (refine wpG_late rfl (fun K hK => ?_); go_simp; (try simp only []); (try simp only []); refine hK _ _ ?_; clear hK K; try simp only [Act.put, List.setIfInBounds_toArray, List.set_cons_zero, List.set_cons_succ])
      refine wpG_nil ?_
      refine name_world (f := Exit.then _ _ Exit.normal _) (fun Y hY => ?_)
      have hBY : Below wr.heap.size wr Y := by rw [hY]; (repeat' (first | (with_reducible exact Below.refl _ _) | (with_reducible assumption) | (with_reducible refine below_from_drew ?_) | (with_reducible refine Below.alloc ?_ ?_ _) | (with_reducible refine Below.drew ?_) | (with_reducible refine below_drewN ?_ _) | (with_reducible refine Below.setCell ?_ ?_ _) | (with_reducible refine below_via ?_ (by assumption) ?_) | (with_reducible refine below_ov ?_ ?_ _ _) | go_size))
      have hp7 : Has Y wr.heap.size #[.int .i64 e0, .int .i64 e1, .int .i64 e2, .int .i64 e3] 40 := by rw [hY]; (repeat' (first | (with_reducible refine has_drew ?_) | (with_reducible refine has_drewN ?_) | (with_reducible refine has_new ?_; (first | (with_reducible rfl) | omega | (simp; done) | (simp; omega))) | (with_reducible refine has_ov_same ?_; (first | (with_reducible rfl) | omega | (simp; done) | (simp; omega))) | (with_reducible refine has_alloc ?_) | (with_reducible refine has_ov_other ?_ ?_; (focus (first | (with_reducible rfl) | omega | (simp; done) | (simp; omega)))) | (with_reducible assumption) | (with_reducible exact has_below hB (by assumption))))
      have himY := HI.out.below hBY
      have hbuY := HB.out.then hBY hzr
      have hnS := himY.S_not hp7 (by decide)
      have hc7 := hp7.cells; have l7 := hp7.lt; have o7 : Old Y wr.heap.size := l7
      have CF := fill8_any L _ (e0, e1, e2, e3) 0 Y himY HIN.out (by omega)
      simp only [rectVal] at CF
      have CF := Lib.hid CF; have HP7 := Lib.hid hp7; have HBUY := Lib.hid hbuY; have HNS := Lib.hid hnS
      clear hY hBY hp7 himY hbuY hnS hB hz z0 o0 hS HI HB k0 k1 k2 k3 lbr obr
      generalize wr.heap.size = p7 at *
      go_wp2_with ((go_at_call 72); (with_reducible refine CF.out.mono ?_); rintro e9 Z ⟨rfl, him9, hbut9⟩)
      have hp9 := hbut9.has HP7.out HP7.out.lt HNS.out
      have hbZ := HBUY.out.trans (hbut9.less HBUY.out.size)
      have HI9 := Lib.hid him9; have HB9 := Lib.hid hbZ; have HP9 := Lib.hid hp9
      clear him9 hbut9 hp9 hbZ CF HP7 HBUY HNS hc7 l7 o7
      obtain ⟨g, hg⟩ : ∃ g, fillF (e0, e1, e2, e3) 0 (paintF L.W L.H l (List.take i R) f) = g := ⟨_, rfl⟩
      rw [hg] at HI9
      have HG := Lib.hid hg
      clear hg
      have hz9 := HB9.out.size
      have h0 : PntI X L l (e0, e1, e2, e3) p7 g (.int .i64 0) Z := ⟨0, rfl, Nat.zero_le _, HI9.out, HB9.out, HP9.out⟩
      have H0 := Lib.hid h0
      clear h0 HI9 HB9 HP9
      go_wp2_with fail
      go_loopw [26] (fun iv wr => PntI X L l (e0, e1, e2, e3) p7 g iv wr) (fun iv _ => n - (intOf iv).toNat)
      case atStart => exact H0.out
      case round =>
        clear H0 hz9 hzr
        unfold PntI at hrel
        obtain ⟨j, rfl, hj, him, hbut, hp7⟩ := hrel
        have hzr := hbut.size
        have hc7 := hp7.cells; have l7 := hp7.lt; have o7 : Old wr p7 := l7
        rcases Nat.lt_or_ge j n with d1 | d1
        · have d2 : (j : Int) < n := by omega
          have hil := HLX.out.buts hbut rfl (fun b cs q hh => HAX.out.S_not hh (by decide) q)
          obtain ⟨bi, offi, cs, rfl, hbi, hcs⟩ := hil (by rw [HN.out]; omega)
          obtain ⟨kc, k0, k1, k2, k3, k4, k5, k6⟩ := hcs j (by rw [HN.out]; omega)
          have k0 := (hbi.cells _).trans k0; have k1 := (hbi.cells _).trans k1; have k2 := (hbi.cells _).trans k2; have k3 := (hbi.cells _).trans k3; have k4 := (hbi.cells _).trans k4; have k5 := (hbi.cells _).trans k5; have k6 := (hbi.cells _).trans k6
          have lbi := hbi.lt; have obi : Old wr bi := lbi
          have HIT := Lib.hid (itemsR_take (r := (e0, e1, e2, e3)) (l := l) (f := g) (k := j) (by rw [HN.out]; omega))
          have HI := Lib.hid him; have HB := Lib.hid hbut; have HP7 := Lib.hid hp7
          clear him hbut hp7 hcs hbi hil
          generalize l.getD j item0 = x at *
          obtain ⟨nd, pt, ⟨x0, x1, x2, x3⟩, xc⟩ := x
          simp only at k0 k1 k2 k3 k4 k5 k6 kc
          obtain ⟨⟨t0, t1, t2, t3⟩, hE⟩ : ∃ r, andQ (x0, x1, x2, x3) (e0, e1, e2, e3) = r := ⟨_, rfl⟩
          have HAN := Lib.hid (fun u => and_val (x0, x1, x2, x3) (e0, e1, e2, e3) u)
          have hin : InQ L.W L.H (andQ (x0, x1, x2, x3) (e0, e1, e2, e3)) := HIN.out.and
          simp only [hE] at HIT
          rw [hE] at HAN hin
          simp only [rectVal] at HAN
          have HIN2 := Lib.hid hin; have HKC := Lib.hid kc
          clear hin hE kc
          go_wp2_with fail
          have hq7 := HP7.out
          refine region_ord [(0, 0), (1, 0), (2, 0), (3, 0), (5, 0), (6, 0), (4, 1), (7, 2)] (by kernel_rfl) (by kernel_rfl) (fun _ _ d _ _ h => by cases d <;> exact h) (fun hS => ?_)
          (refine wpG_read (v := ?_) rfl (.inl ⟨by rfl, fun wx hbx => ?_⟩) ?_; rotate_left; (focus (obtain ⟨cx0, fx0, zx0⟩ := bk hbx (p7) (by first | omega | (simp; done) | (simp; omega)); obtain ⟨cx1, fx1, zx1⟩ := bk hbx (wr.heap.size) (by first | omega | (simp; done) | (simp; omega)); go_simp; (try go_bits); (try with_reducible rfl))); try simp only [Act.put, List.setIfInBounds_toArray, List.set_cons_zero, List.set_cons_succ])
          (refine wpG_read (v := ?_) rfl (.inl ⟨by rfl, fun wx hbx => ?_⟩) ?_; rotate_left; (focus (obtain ⟨cx0, fx0, zx0⟩ := bk hbx (p7) (by first | omega | (simp; done) | (simp; omega)); obtain ⟨cx1, fx1, zx1⟩ := bk hbx (wr.heap.size) (by first | omega | (simp; done) | (simp; omega)); go_simp; (try go_bits); (try with_reducible rfl))); try simp only [Act.put, List.setIfInBounds_toArray, List.set_cons_zero, List.set_cons_succ])
          (refine wpG_read (v := ?_) rfl (.inl ⟨by rfl, fun wx hbx => ?_⟩) ?_; rotate_left; (focus (obtain ⟨cx0, fx0, zx0⟩ := bk hbx (p7) (by first | omega | (simp; done) | (simp; omega)); obtain ⟨cx1, fx1, zx1⟩ := bk hbx (wr.heap.size) (by first | omega | (simp; done) | (simp; omega)); go_simp; (try go_bits); (try with_reducible rfl))); try simp only [Act.put, List.setIfInBounds_toArray, List.set_cons_zero, List.set_cons_succ])
          (refine wpG_read (v := ?_) rfl (.inl ⟨by rfl, fun wx hbx => ?_⟩) ?_; rotate_left; (focus (obtain ⟨cx0, fx0, zx0⟩ := bk hbx (p7) (by first | omega | (simp; done) | (simp; omega)); obtain ⟨cx1, fx1, zx1⟩ := bk hbx (wr.heap.size) (by first | omega | (simp; done) | (simp; omega)); go_simp; (try go_bits); (try with_reducible rfl))); try simp only [Act.put, List.setIfInBounds_toArray, List.set_cons_zero, List.set_cons_succ])
          (refine wpG_read (v := ?_) rfl (.inl ⟨by rfl, fun wx hbx => ?_⟩) ?_; rotate_left; (focus (obtain ⟨cx0, fx0, zx0⟩ := bk hbx (p7) (by first | omega | (simp; done) | (simp; omega)); obtain ⟨cx1, fx1, zx1⟩ := bk hbx (wr.heap.size) (by first | omega | (simp; done) | (simp; omega)); go_simp; (try go_bits); (try with_reducible rfl))); try simp only [Act.put, List.setIfInBounds_toArray, List.set_cons_zero, List.set_cons_succ])
          (refine wpG_read (v := ?_) rfl (.inl ⟨by rfl, fun wx hbx => ?_⟩) ?_; rotate_left; (focus (obtain ⟨cx0, fx0, zx0⟩ := bk hbx (p7) (by first | omega | (simp; done) | (simp; omega)); obtain ⟨cx1, fx1, zx1⟩ := bk hbx (wr.heap.size) (by first | omega | (simp; done) | (simp; omega)); go_simp; (try go_bits); (try with_reducible rfl))); try simp only [Act.put, List.setIfInBounds_toArray, List.set_cons_zero, List.set_cons_succ])
          (refine wpG_make rfl (fun K hK => ?_); go_simp; (go_at_call 32; (with_reducible refine (HAN.out _).mono ?_); rintro e w1 ⟨rfl, hb⟩; refine Exists.elim (after2 (w := wr) (b0 := p7) (cs0 := ?_) (T0 := ?_) (b1 := wr.heap.size) (cs1 := ?_) (T1 := ?_) hb ?_ ?_ ?_) ?_; rotate_left 4; (focus ((repeat' (first | (with_reducible exact Below.refl _ _) | (with_reducible assumption) | (with_reducible refine below_from_drew ?_) | (with_reducible refine Below.alloc ?_ ?_ _) | (with_reducible refine Below.drew ?_) | (with_reducible refine below_drewN ?_ _) | (with_reducible refine Below.setCell ?_ ?_ _) | (with_reducible refine below_via ?_ (by assumption) ?_) | (with_reducible refine below_ov ?_ ?_ _ _) | go_size)); done)); (focus ((repeat' (first | (with_reducible refine has_drew ?_) | (with_reducible refine has_drewN ?_) | (with_reducible refine has_new ?_; (first | (with_reducible rfl) | omega | (simp; done) | (simp; omega))) | (with_reducible refine has_ov_same ?_; (first | (with_reducible rfl) | omega | (simp; done) | (simp; omega))) | (with_reducible refine has_alloc ?_) | (with_reducible refine has_ov_other ?_ ?_; (focus (first | (with_reducible rfl) | omega | (simp; done) | (simp; omega)))) | (with_reducible assumption) | (with_reducible exact has_below hB (by assumption)))); done)); (focus ((repeat' (first | (with_reducible refine has_drew ?_) | (with_reducible refine has_drewN ?_) | (with_reducible refine has_new ?_; (first | (with_reducible rfl) | omega | (simp; done) | (simp; omega))) | (with_reducible refine has_ov_same ?_; (first | (with_reducible rfl) | omega | (simp; done) | (simp; omega))) | (with_reducible refine has_alloc ?_) | (with_reducible refine has_ov_other ?_ ?_; (focus (first | (with_reducible rfl) | omega | (simp; done) | (simp; omega)))) | (with_reducible assumption) | (with_reducible exact has_below hB (by assumption)))); done)); rintro u3 ⟨rfl, hB, hz, z0, o0, z1, o1⟩; (try simp only [World.size_alloc, World.size_setCell, World.size_drew, ov_size] at hz)); (try simp only []); refine hK _ _ ?_ (fun hS2 => ?_); (focus ((repeat' (first | (with_reducible exact Below.refl _ _) | (with_reducible assumption) | (with_reducible refine below_from_drew ?_) | (with_reducible refine Below.alloc ?_ ?_ _) | (with_reducible refine Below.drew ?_) | (with_reducible refine below_drewN ?_ _) | (with_reducible refine Below.setCell ?_ ?_ _) | (with_reducible refine below_via ?_ (by assumption) ?_) | (with_reducible refine below_ov ?_ ?_ _ _) | go_size)); done)); clear hK K hS; have hS := hS2; clear hS2; (try clear hb); try simp only [Act.put, List.setIfInBounds_toArray, List.set_cons_zero, List.set_cons_succ])
          refine name_world (f := wpG _ _ _ _ _ _) (fun Y2 hY2 => ?_)
          have hBY : Below wr.heap.size wr Y2 := by rw [hY2]; (repeat' (first | (with_reducible exact Below.refl _ _) | (with_reducible assumption) | (with_reducible refine below_from_drew ?_) | (with_reducible refine Below.alloc ?_ ?_ _) | (with_reducible refine Below.drew ?_) | (with_reducible refine below_drewN ?_ _) | (with_reducible refine Below.setCell ?_ ?_ _) | (with_reducible refine below_via ?_ (by assumption) ?_) | (with_reducible refine below_ov ?_ ?_ _ _) | go_size))
          have hp7 : Has Y2 p7 #[.int .i64 e0, .int .i64 e1, .int .i64 e2, .int .i64 e3] 40 := by rw [hY2]; (repeat' (first | (with_reducible refine has_drew ?_) | (with_reducible refine has_drewN ?_) | (with_reducible refine has_new ?_; (first | (with_reducible rfl) | omega | (simp; done) | (simp; omega))) | (with_reducible refine has_ov_same ?_; (first | (with_reducible rfl) | omega | (simp; done) | (simp; omega))) | (with_reducible refine has_alloc ?_) | (with_reducible refine has_ov_other ?_ ?_; (focus (first | (with_reducible rfl) | omega | (simp; done) | (simp; omega)))) | (with_reducible assumption) | (with_reducible exact has_below hB (by assumption))))
          have himY := HI.out.below hBY
          have hbuY := HB.out.then hBY hzr
          have hnS := himY.S_not hp7 (by decide)
          have CF := fill8_any L _ (t0, t1, t2, t3) xc Y2 himY HIN2.out HKC.out
          simp only [rectVal] at CF
          rw [← HIT.out] at CF
          have CF := Lib.hid CF; have HP7 := Lib.hid hp7; have HBUY := Lib.hid hbuY; have HNS := Lib.hid hnS
          clear hY2 hBY hp7 himY hbuY hnS hS k0 k1 k2 k3 k4 k5 k6 lbi obi
          refine wpG_late rfl (fun K hK => ?_)
          go_simp
          go_at_call 72
          with_reducible refine CF.out.mono ?_
          rintro e9 Z2 ⟨rfl, him9, hbut9⟩
          have hp9 := hbut9.has HP7.out HP7.out.lt HNS.out
          have hbZ := HBUY.out.trans (hbut9.less HBUY.out.size)
          refine hK _ _ ?_
          clear hK K
          refine wpG_nil ?_
          go_wp2_with fail
          exact ⟨⟨j + 1, by push_cast; rfl, by rw [HN.out]; exact d1, him9, hbZ, hp9⟩, by simp only [intOf]; omega⟩
        · obtain rfl : j = n := by rw [HN.out] at hj; omega
          have g1 : List.take j l = l := List.take_of_length_le (by rw [HN.out]; exact Nat.le_refl _)
          rw [g1] at him
          have g2 : itemsR (e0, e1, e2, e3) l g = paintF L.W L.H l (List.take (i + 1) R) f := by
            rw [HPF.out]
            unfold paintR
            rw [HWE.out, HEE.out, HG.out]
          rw [g2] at him
          have HI := Lib.hid him; have HB := Lib.hid hbut
          clear him hbut g1 g2 hp7 hc7 l7 o7
          go_wp2_with fail
          exact ⟨⟨i + 1, by push_cast; rfl, c1, HI.out, HB.out⟩, by simp only [intOf]; omega⟩
    · obtain rfl : i = R.length := by omega
      go_wp2_with fail
      go_end0
      rw [List.take_length] at HI
      exact ⟨rfl, HI.out, (ButS.of HBX.out).trans (HB.out.less hzX)⟩
end Go.Proofs.Ytkpamofamcndnaa
namespace Go.Proofs.Ytkpamofamcndnaa
open Go.RowKit Go.Shelf
set_option linter.unusedSimpArgs false
set_option linter.unusedVariables false
-- below_from_drew
attribute [local go_sem] ov_cell_same ov_cell_other ov_frozen_same ov_frozen_other ov_size ov_setCell_same ov_setCell_other cell_alloc_old frozen_alloc_old setCell_alloc_old old_alloc old_ov old_drew old_drewN old_setCell
attribute [local go_sem ↓] run_max2 run_min2 eql_rect eq_nil8
theorem andQ_none (q : RectQ) : andQ q (0, 0, 0, 0) = (0, 0, 0, 0) := by
  obtain ⟨a, b, c, d⟩ := q
  obtain ⟨p, q, r, s, A, B, C, D, X, Y, Z, T, e0, e1, e2, e3, a0, a1, a2, a3, x0, x1, x2, x3, hA, hX, hp, h⟩ := n_all a b c d 0 0 0 0
  have z : r0 0 0 0 0 = 0 ∧ r1 0 0 0 0 = 0 ∧ r2 0 0 0 0 = 0 ∧ r3 0 0 0 0 = 0 := by decide
  unfold andQ
  simp only [e0, e1, e2, e3]
  unfold NF at *
  have : p = 0 ∧ q = 0 ∧ r = 0 ∧ s = 0 := by omega
  rw [this.1, this.2.1, this.2.2.1, this.2.2.2]
theorem and_none (x0 x1 x2 x3 : Int) (w : World) : Calls Try.prog 32 #[(.agg #[.int .i64 (x0), .int .i64 (x1), .int .i64 (x2), .int .i64 (x3)]), (.agg #[.int .i64 (0), .int .i64 (0), .int .i64 (0), .int .i64 (0)])] w fun e w' => e = .returned (.agg #[.int .i64 (0), .int .i64 (0), .int .i64 (0), .int .i64 (0)]) ∧ Below w.heap.size w w' := by
  have q := and_val (x0, x1, x2, x3) (0, 0, 0, 0) w
  rw [andQ_none] at q
  exact q
theorem RectsT.below {w w1 : World} {a : Option Addr} {l : List RectQ} (h : RectsT w a l) (hb : Below w.heap.size w w1) : RectsT w1 a l := fun h0 => by
  obtain ⟨b, off, cs, e, h1, h2⟩ := h h0
  exact ⟨b, off, cs, e, has_below hb h1, h2⟩
set_option maxRecDepth 100000 in
set_option maxHeartbeats 4000000 in
theorem paint8_nil (a al : Option Addr) (n c ca : Nat) (l : List ItemZ) (B : List BandZ) (R : List RectQ) (w : World) (hn : l.length = n) (hn2 : n ≤ 1000000000000) (hl : ItemsT w a l) (hB : RegOk B) (hbs : BandsAt w al B) (hR : rectsZ B = R) (hRl : R.length ≤ 1000000000000) :
    Calls Try.prog 43 #[.pointer none, .slice a n c, .agg #[.slice al B.length ca]] w fun e w' => e = .returned (.tuple #[]) ∧ Below w.heap.size w w' := by
  have HRC := Lib.hid (fun u (hb : Below w.heap.size w u) => rects_own al B.length ca B u hB rfl (hbs.below hb) R hR hRl)
  have HL := Lib.hid hl; have HN := Lib.hid hn
  clear hl hB hbs hR hn
  go_enter Try.func43, Try.ntmps43
  go_wp2_with (go_at_call 26; (with_reducible refine (HRC.out _ (by (repeat' (first | (with_reducible exact Below.refl _ _) | (with_reducible assumption) | (with_reducible refine below_from_drew ?_) | (with_reducible refine Below.alloc ?_ ?_ _) | (with_reducible refine Below.drew ?_) | (with_reducible refine below_drewN ?_ _) | (with_reducible refine Below.setCell ?_ ?_ _) | (with_reducible refine below_via ?_ (by assumption) ?_) | (with_reducible refine below_ov ?_ ?_ _ _) | go_size)))).mono ?_); rintro e X ⟨ar, cr, rfl, hr, hb⟩; have hz := hb.size; refine (fun hB => ?_ : Below w.heap.size w X → _) ?_; rotate_left; (focus ((repeat' (first | (with_reducible exact Below.refl _ _) | (with_reducible assumption) | (with_reducible refine below_from_drew ?_) | (with_reducible refine Below.alloc ?_ ?_ _) | (with_reducible refine Below.drew ?_) | (with_reducible refine below_drewN ?_ _) | (with_reducible refine Below.setCell ?_ ?_ _) | (with_reducible refine below_via ?_ (by assumption) ?_) | (with_reducible refine below_ov ?_ ?_ _ _) | go_size)); done)); (try simp only [World.size_alloc, World.size_setCell, World.size_drew, ov_size] at hz))
  have HLX := Lib.hid (HL.out.below hB); have HRX := Lib.hid (rectsT_owned hr rfl)
  have HBX := Lib.hid hB
  clear hb hB hr HRC HL
  have hzX : w.heap.size ≤ X.heap.size := HBX.out.size
  clear hz
  go_loopw [13] (fun iv wr => ∃ i : Nat, iv = .int .i64 i ∧ i ≤ R.length ∧ Below X.heap.size X wr) (fun iv _ => R.length - (intOf iv).toNat)
  case atStart => exact ⟨0, rfl, Nat.zero_le _, Below.refl _ _⟩
  case round =>
    obtain ⟨i, rfl, hi, hbe⟩ := hrel
    have hzr := hbe.size
    have HB := Lib.hid hbe
    clear hbe
    rcases Nat.lt_or_ge i R.length with c1 | c1
    · have c2 : (i : Int) < R.length := by omega
      have hrt := HRX.out.below HB.out
      obtain ⟨br, offr, cs, rfl, hbr, hcs⟩ := hrt (by omega)
      obtain ⟨k0, k1, k2, k3⟩ := hcs i c1
      have k0 := (hbr.cells _).trans k0; have k1 := (hbr.cells _).trans k1; have k2 := (hbr.cells _).trans k2; have k3 := (hbr.cells _).trans k3
      have lbr := hbr.lt; have obr : Old wr br := lbr
      generalize hq : R.getD i q0Z = q at *
      clear hq hcs hbr hrt
      obtain ⟨q0, q1, q2, q3⟩ := q
      simp only at k0 k1 k2 k3
      go_wp2_with fail
      refine region_ord [(0, 0), (1, 0), (2, 1), (3, 1), (4, 2)] (by kernel_rfl) (by kernel_rfl) (fun _ _ d _ _ h => by cases d <;> exact h) (fun hS => ?_)
      (refine wpG_read (v := ?_) rfl (.inl ⟨by rfl, fun wx hbx => ?_⟩) ?_; rotate_left; (focus (obtain ⟨cx0, fx0, zx0⟩ := bk hbx (wr.heap.size) (by first | omega | (simp; done) | (simp; omega)); go_simp; (try go_bits); (try with_reducible rfl))); try simp only [Act.put, List.setIfInBounds_toArray, List.set_cons_zero, List.set_cons_succ])
      (refine wpG_read (v := ?_) rfl (.inl ⟨by rfl, fun wx hbx => ?_⟩) ?_; rotate_left; (focus (obtain ⟨cx0, fx0, zx0⟩ := bk hbx (wr.heap.size) (by first | omega | (simp; done) | (simp; omega)); go_simp; (try go_bits); (try with_reducible rfl))); try simp only [Act.put, List.setIfInBounds_toArray, List.set_cons_zero, List.set_cons_succ])
      (refine wpG_make rfl (fun K hK => ?_); go_simp; (go_at_call 67; (with_reducible refine (whole_nil _).mono ?_); rintro e w1 ⟨rfl, hb⟩; refine Exists.elim (after1 (w := wr) (b0 := wr.heap.size) (cs0 := ?_) (T0 := ?_) hb ?_ ?_) ?_; rotate_left 2; (focus ((repeat' (first | (with_reducible exact Below.refl _ _) | (with_reducible assumption) | (with_reducible refine below_from_drew ?_) | (with_reducible refine Below.alloc ?_ ?_ _) | (with_reducible refine Below.drew ?_) | (with_reducible refine below_drewN ?_ _) | (with_reducible refine Below.setCell ?_ ?_ _) | (with_reducible refine below_via ?_ (by assumption) ?_) | (with_reducible refine below_ov ?_ ?_ _ _) | go_size)); done)); (focus ((repeat' (first | (with_reducible refine has_drew ?_) | (with_reducible refine has_drewN ?_) | (with_reducible refine has_new ?_; (first | (with_reducible rfl) | omega | (simp; done) | (simp; omega))) | (with_reducible refine has_ov_same ?_; (first | (with_reducible rfl) | omega | (simp; done) | (simp; omega))) | (with_reducible refine has_alloc ?_) | (with_reducible refine has_ov_other ?_ ?_; (focus (first | (with_reducible rfl) | omega | (simp; done) | (simp; omega)))) | (with_reducible assumption) | (with_reducible exact has_below hB (by assumption)))); done)); rintro u1 ⟨rfl, hB, hz, z0, o0⟩; (try simp only [World.size_alloc, World.size_setCell, World.size_drew, ov_size] at hz)); (try simp only []); refine hK _ _ ?_ (fun hS2 => ?_); (focus ((repeat' (first | (with_reducible exact Below.refl _ _) | (with_reducible assumption) | (with_reducible refine below_from_drew ?_) | (with_reducible refine Below.alloc ?_ ?_ _) | (with_reducible refine Below.drew ?_) | (with_reducible refine below_drewN ?_ _) | (with_reducible refine Below.setCell ?_ ?_ _) | (with_reducible refine below_via ?_ (by assumption) ?_) | (with_reducible refine below_ov ?_ ?_ _ _) | go_size)); done)); clear hK K hS; have hS := hS2; clear hS2; (try clear hb); try simp only [Act.put, List.setIfInBounds_toArray, List.set_cons_zero, List.set_cons_succ])
      (refine wpG_make rfl (fun K hK => ?_); go_simp; (go_at_call 32; (with_reducible refine (and_none _ _ _ _ _).mono ?_); rintro e w1 ⟨rfl, hb⟩; refine Exists.elim (after1 (w := wr) (b0 := wr.heap.size) (cs0 := ?_) (T0 := ?_) hb ?_ ?_) ?_; rotate_left 2; (focus ((repeat' (first | (with_reducible exact Below.refl _ _) | (with_reducible assumption) | (with_reducible refine below_from_drew ?_) | (with_reducible refine Below.alloc ?_ ?_ _) | (with_reducible refine Below.drew ?_) | (with_reducible refine below_drewN ?_ _) | (with_reducible refine Below.setCell ?_ ?_ _) | (with_reducible refine below_via ?_ (by assumption) ?_) | (with_reducible refine below_ov ?_ ?_ _ _) | go_size)); done)); (focus ((repeat' (first | (with_reducible refine has_drew ?_) | (with_reducible refine has_drewN ?_) | (with_reducible refine has_new ?_; (first | (with_reducible rfl) | omega | (simp; done) | (simp; omega))) | (with_reducible refine has_ov_same ?_; (first | (with_reducible rfl) | omega | (simp; done) | (simp; omega))) | (with_reducible refine has_alloc ?_) | (with_reducible refine has_ov_other ?_ ?_; (focus (first | (with_reducible rfl) | omega | (simp; done) | (simp; omega)))) | (with_reducible assumption) | (with_reducible exact has_below hB (by assumption)))); done)); rintro u2 ⟨rfl, hB, hz, z0, o0⟩; (try simp only [World.size_alloc, World.size_setCell, World.size_drew, ov_size] at hz)); (try simp only []); refine hK _ _ ?_ (fun hS2 => ?_); (focus ((repeat' (first | (with_reducible exact Below.refl _ _) | (with_reducible assumption) | (with_reducible refine below_from_drew ?_) | (with_reducible refine Below.alloc ?_ ?_ _) | (with_reducible refine Below.drew ?_) | (with_reducible refine below_drewN ?_ _) | (with_reducible refine Below.setCell ?_ ?_ _) | (with_reducible refine below_via ?_ (by assumption) ?_) | (with_reducible refine below_ov ?_ ?_ _ _) | go_size)); done)); clear hK K hS; have hS := hS2; clear hS2; (try clear hb); try simp only [Act.put, List.setIfInBounds_toArray, List.set_cons_zero, List.set_cons_succ])
      (refine wpG_late rfl (fun K hK => ?_); go_simp; (try simp only []); (try simp only []); refine hK _ _ ?_; clear hK K; try simp only [Act.put, List.setIfInBounds_toArray, List.set_cons_zero, List.set_cons_succ])
      refine wpG_nil ?_
      refine name_world (f := Exit.then _ _ Exit.normal _) (fun Y hY => ?_)
      have hBY : Below wr.heap.size wr Y := by rw [hY]; (repeat' (first | (with_reducible exact Below.refl _ _) | (with_reducible assumption) | (with_reducible refine below_from_drew ?_) | (with_reducible refine Below.alloc ?_ ?_ _) | (with_reducible refine Below.drew ?_) | (with_reducible refine below_drewN ?_ _) | (with_reducible refine Below.setCell ?_ ?_ _) | (with_reducible refine below_via ?_ (by assumption) ?_) | (with_reducible refine below_ov ?_ ?_ _ _) | go_size))
      have hp7 : Has Y wr.heap.size #[.int .i64 0, .int .i64 0, .int .i64 0, .int .i64 0] 40 := by rw [hY]; (repeat' (first | (with_reducible refine has_drew ?_) | (with_reducible refine has_drewN ?_) | (with_reducible refine has_new ?_; (first | (with_reducible rfl) | omega | (simp; done) | (simp; omega))) | (with_reducible refine has_ov_same ?_; (first | (with_reducible rfl) | omega | (simp; done) | (simp; omega))) | (with_reducible refine has_alloc ?_) | (with_reducible refine has_ov_other ?_ ?_; (focus (first | (with_reducible rfl) | omega | (simp; done) | (simp; omega)))) | (with_reducible assumption) | (with_reducible exact has_below hB (by assumption))))
      have hc7 := hp7.cells; have l7 := hp7.lt; have o7 : Old Y wr.heap.size := l7
      have HP7 := Lib.hid hp7; have HBY := Lib.hid (HB.out.trans (hBY.mono hzr))
      clear hY hBY hp7 hB hz z0 o0 hS HB k0 k1 k2 k3 lbr obr
      generalize wr.heap.size = p7 at *
      go_wp2_with ((go_at_call 72); (with_reducible refine (fill_nil _ _).mono ?_); rintro e9 Z ⟨rfl, hb9⟩)
      have h0 : ∃ j : Nat, Value.int .i64 0 = .int .i64 j ∧ j ≤ n ∧ Below X.heap.size X Z ∧ Has Z p7 #[.int .i64 0, .int .i64 0, .int .i64 0, .int .i64 0] 40 := ⟨0, rfl, Nat.zero_le _, HBY.out.trans (hb9.mono HBY.out.size), has_below hb9 HP7.out⟩
      have H0 := Lib.hid h0
      clear h0 hb9 HP7 HBY hc7 l7 o7 hzr
      go_wp2_with fail
      go_loopw [26] (fun iv wr => ∃ j : Nat, iv = .int .i64 j ∧ j ≤ n ∧ Below X.heap.size X wr ∧ Has wr p7 #[.int .i64 0, .int .i64 0, .int .i64 0, .int .i64 0] 40) (fun iv _ => n - (intOf iv).toNat)
      case atStart => exact H0.out
      case round =>
        clear H0
        obtain ⟨j, rfl, hj, hbe, hp7⟩ := hrel
        have hzr := hbe.size
        have hc7 := hp7.cells; have l7 := hp7.lt; have o7 : Old wr p7 := l7
        rcases Nat.lt_or_ge j n with d1 | d1
        · have d2 : (j : Int) < n := by omega
          have hil := HLX.out.below hbe
          obtain ⟨bi, offi, cs, rfl, hbi, hcs⟩ := hil (by rw [HN.out]; omega)
          obtain ⟨kc, k0, k1, k2, k3, k4, k5, k6⟩ := hcs j (by rw [HN.out]; omega)
          have k0 := (hbi.cells _).trans k0; have k1 := (hbi.cells _).trans k1; have k2 := (hbi.cells _).trans k2; have k3 := (hbi.cells _).trans k3; have k4 := (hbi.cells _).trans k4; have k5 := (hbi.cells _).trans k5; have k6 := (hbi.cells _).trans k6
          have lbi := hbi.lt; have obi : Old wr bi := lbi
          have HB := Lib.hid hbe; have HP7 := Lib.hid hp7
          have hq7 := hp7
          clear hbe hp7 hcs hbi hil
          generalize l.getD j item0 = x at *
          obtain ⟨nd, pt, ⟨x0, x1, x2, x3⟩, xc⟩ := x
          simp only at k0 k1 k2 k3 k4 k5 k6 kc
          go_wp2_with fail
          refine region_ord [(0, 0), (1, 0), (2, 0), (3, 0), (5, 0), (6, 0), (4, 1), (7, 2)] (by kernel_rfl) (by kernel_rfl) (fun _ _ d _ _ h => by cases d <;> exact h) (fun hS => ?_)
          (refine wpG_read (v := ?_) rfl (.inl ⟨by rfl, fun wx hbx => ?_⟩) ?_; rotate_left; (focus (obtain ⟨cx0, fx0, zx0⟩ := bk hbx (p7) (by first | omega | (simp; done) | (simp; omega)); obtain ⟨cx1, fx1, zx1⟩ := bk hbx (wr.heap.size) (by first | omega | (simp; done) | (simp; omega)); go_simp; (try go_bits); (try with_reducible rfl))); try simp only [Act.put, List.setIfInBounds_toArray, List.set_cons_zero, List.set_cons_succ])
          (refine wpG_read (v := ?_) rfl (.inl ⟨by rfl, fun wx hbx => ?_⟩) ?_; rotate_left; (focus (obtain ⟨cx0, fx0, zx0⟩ := bk hbx (p7) (by first | omega | (simp; done) | (simp; omega)); obtain ⟨cx1, fx1, zx1⟩ := bk hbx (wr.heap.size) (by first | omega | (simp; done) | (simp; omega)); go_simp; (try go_bits); (try with_reducible rfl))); try simp only [Act.put, List.setIfInBounds_toArray, List.set_cons_zero, List.set_cons_succ])
          (refine wpG_read (v := ?_) rfl (.inl ⟨by rfl, fun wx hbx => ?_⟩) ?_; rotate_left; (focus (obtain ⟨cx0, fx0, zx0⟩ := bk hbx (p7) (by first | omega | (simp; done) | (simp; omega)); obtain ⟨cx1, fx1, zx1⟩ := bk hbx (wr.heap.size) (by first | omega | (simp; done) | (simp; omega)); go_simp; (try go_bits); (try with_reducible rfl))); try simp only [Act.put, List.setIfInBounds_toArray, List.set_cons_zero, List.set_cons_succ])
          (refine wpG_read (v := ?_) rfl (.inl ⟨by rfl, fun wx hbx => ?_⟩) ?_; rotate_left; (focus (obtain ⟨cx0, fx0, zx0⟩ := bk hbx (p7) (by first | omega | (simp; done) | (simp; omega)); obtain ⟨cx1, fx1, zx1⟩ := bk hbx (wr.heap.size) (by first | omega | (simp; done) | (simp; omega)); go_simp; (try go_bits); (try with_reducible rfl))); try simp only [Act.put, List.setIfInBounds_toArray, List.set_cons_zero, List.set_cons_succ])
          (refine wpG_read (v := ?_) rfl (.inl ⟨by rfl, fun wx hbx => ?_⟩) ?_; rotate_left; (focus (obtain ⟨cx0, fx0, zx0⟩ := bk hbx (p7) (by first | omega | (simp; done) | (simp; omega)); obtain ⟨cx1, fx1, zx1⟩ := bk hbx (wr.heap.size) (by first | omega | (simp; done) | (simp; omega)); go_simp; (try go_bits); (try with_reducible rfl))); try simp only [Act.put, List.setIfInBounds_toArray, List.set_cons_zero, List.set_cons_succ])
          (refine wpG_read (v := ?_) rfl (.inl ⟨by rfl, fun wx hbx => ?_⟩) ?_; rotate_left; (focus (obtain ⟨cx0, fx0, zx0⟩ := bk hbx (p7) (by first | omega | (simp; done) | (simp; omega)); obtain ⟨cx1, fx1, zx1⟩ := bk hbx (wr.heap.size) (by first | omega | (simp; done) | (simp; omega)); go_simp; (try go_bits); (try with_reducible rfl))); try simp only [Act.put, List.setIfInBounds_toArray, List.set_cons_zero, List.set_cons_succ])
          (refine wpG_make rfl (fun K hK => ?_); go_simp; (go_at_call 32; (with_reducible refine (and_none _ _ _ _ _).mono ?_); rintro e w1 ⟨rfl, hb⟩; refine Exists.elim (after2 (w := wr) (b0 := p7) (cs0 := ?_) (T0 := ?_) (b1 := wr.heap.size) (cs1 := ?_) (T1 := ?_) hb ?_ ?_ ?_) ?_; rotate_left 4; (focus ((repeat' (first | (with_reducible exact Below.refl _ _) | (with_reducible assumption) | (with_reducible refine below_from_drew ?_) | (with_reducible refine Below.alloc ?_ ?_ _) | (with_reducible refine Below.drew ?_) | (with_reducible refine below_drewN ?_ _) | (with_reducible refine Below.setCell ?_ ?_ _) | (with_reducible refine below_via ?_ (by assumption) ?_) | (with_reducible refine below_ov ?_ ?_ _ _) | go_size)); done)); (focus ((repeat' (first | (with_reducible refine has_drew ?_) | (with_reducible refine has_drewN ?_) | (with_reducible refine has_new ?_; (first | (with_reducible rfl) | omega | (simp; done) | (simp; omega))) | (with_reducible refine has_ov_same ?_; (first | (with_reducible rfl) | omega | (simp; done) | (simp; omega))) | (with_reducible refine has_alloc ?_) | (with_reducible refine has_ov_other ?_ ?_; (focus (first | (with_reducible rfl) | omega | (simp; done) | (simp; omega)))) | (with_reducible assumption) | (with_reducible exact has_below hB (by assumption)))); done)); (focus ((repeat' (first | (with_reducible refine has_drew ?_) | (with_reducible refine has_drewN ?_) | (with_reducible refine has_new ?_; (first | (with_reducible rfl) | omega | (simp; done) | (simp; omega))) | (with_reducible refine has_ov_same ?_; (first | (with_reducible rfl) | omega | (simp; done) | (simp; omega))) | (with_reducible refine has_alloc ?_) | (with_reducible refine has_ov_other ?_ ?_; (focus (first | (with_reducible rfl) | omega | (simp; done) | (simp; omega)))) | (with_reducible assumption) | (with_reducible exact has_below hB (by assumption)))); done)); rintro u3 ⟨rfl, hB, hz, z0, o0, z1, o1⟩; (try simp only [World.size_alloc, World.size_setCell, World.size_drew, ov_size] at hz)); (try simp only []); refine hK _ _ ?_ (fun hS2 => ?_); (focus ((repeat' (first | (with_reducible exact Below.refl _ _) | (with_reducible assumption) | (with_reducible refine below_from_drew ?_) | (with_reducible refine Below.alloc ?_ ?_ _) | (with_reducible refine Below.drew ?_) | (with_reducible refine below_drewN ?_ _) | (with_reducible refine Below.setCell ?_ ?_ _) | (with_reducible refine below_via ?_ (by assumption) ?_) | (with_reducible refine below_ov ?_ ?_ _ _) | go_size)); done)); clear hK K hS; have hS := hS2; clear hS2; (try clear hb); try simp only [Act.put, List.setIfInBounds_toArray, List.set_cons_zero, List.set_cons_succ])
          refine name_world (f := wpG _ _ _ _ _ _) (fun Y2 hY2 => ?_)
          have hBY : Below wr.heap.size wr Y2 := by rw [hY2]; (repeat' (first | (with_reducible exact Below.refl _ _) | (with_reducible assumption) | (with_reducible refine below_from_drew ?_) | (with_reducible refine Below.alloc ?_ ?_ _) | (with_reducible refine Below.drew ?_) | (with_reducible refine below_drewN ?_ _) | (with_reducible refine Below.setCell ?_ ?_ _) | (with_reducible refine below_via ?_ (by assumption) ?_) | (with_reducible refine below_ov ?_ ?_ _ _) | go_size))
          have hp7 := has_below hBY HP7.out
          have HP9 := Lib.hid hp7; have HBY := Lib.hid (HB.out.trans (hBY.mono hzr))
          clear hY2 hBY hp7 hS k0 k1 k2 k3 k4 k5 k6 lbi obi
          refine wpG_late rfl (fun K hK => ?_)
          go_simp
          go_at_call 72
          with_reducible refine (fill_nil _ _).mono ?_
          rintro e9 Z2 ⟨rfl, hb9⟩
          refine hK _ _ ?_
          clear hK K
          refine wpG_nil ?_
          go_wp2_with fail
          exact ⟨⟨j + 1, by push_cast; rfl, d1, HBY.out.trans (hb9.mono HBY.out.size), has_below hb9 HP9.out⟩, by simp only [intOf]; omega⟩
        · obtain rfl : j = n := by omega
          have HB := Lib.hid hbe
          clear hbe hp7 hc7 l7 o7
          go_wp2_with fail
          exact ⟨⟨i + 1, by push_cast; rfl, c1, HB.out⟩, by simp only [intOf]; omega⟩
    · obtain rfl : i = R.length := by omega
      go_wp2_with fail
      go_end0
      exact ⟨rfl, HBX.out.trans (HB.out.mono hzX)⟩
end Go.Proofs.Ytkpamofamcndnaa
