/- package region: Area, Hull by contract. -/
import Derived.Test.YtkpamofamcndnaaRegY
namespace Go.Proofs.Ytkpamofamcndnaa
open Go.RowKit Go.Shelf
set_option linter.unusedSimpArgs false
set_option linter.unusedVariables false
-- below_from_drew
attribute [local go_sem] ov_cell_same ov_cell_other ov_frozen_same ov_frozen_other ov_size ov_setCell_same ov_setCell_other cell_alloc_old frozen_alloc_old setCell_alloc_old old_alloc old_ov old_drew old_drewN old_setCell
attribute [local go_sem ↓] run_max2 run_min2 eql_rect

theorem take_snocQ {l : List RectQ} {i : Nat} (h : i < l.length) : l.take (i + 1) = l.take i ++ [l.getD i q0Z] := by
  rw [List.take_add_one, List.getElem?_eq_getElem h]; simp [List.getD_eq_getElem?_getD, h]
theorem sumQ_snoc (l : List RectQ) (q : RectQ) : sumQ (l ++ [q]) = sumQ l + areaQ q := by
  rw [sumQ_append]; show _ + (areaQ q + 0) = _; omega
set_option maxRecDepth 100000 in
set_option maxHeartbeats 4000000 in
theorem rarea_any (a : Option Addr) (n c : Nat) (B : List BandZ) (w : World) (hB : RegOk B) (hn : B.length = n) (h : BandsAt w a B) (hRl : (rectsZ B).length ≤ 1000000000000) :
    Calls Try.prog 25 #[.agg #[.slice a n c]] w fun e w' => e = .returned (.int .i64 (sumQ (rectsZ B))) ∧ Below w.heap.size w w' := by
  have HRC := Lib.hid (fun u (hb : Below w.heap.size w u) => rects_any a n c B u hB hn (h.below hb) _ rfl hRl)
  have hsum := hB.sum_le
  generalize rectsZ B = R at *
  have HS := Lib.hid hsum
  clear hB hn h hsum
  obtain ⟨rl, hrl⟩ : ∃ rl, R.length = rl := ⟨_, rfl⟩
  rw [hrl] at hRl HRC
  have HRL := Lib.hid hrl
  clear hrl
  go_enter Try.func25, Try.ntmps25
  go_wp2_with (go_at_call 26; (with_reducible refine (HRC.out _ (by (repeat' (first | (with_reducible exact Below.refl _ _) | (with_reducible assumption) | (with_reducible refine below_from_drew ?_) | (with_reducible refine Below.alloc ?_ ?_ _) | (with_reducible refine Below.drew ?_) | (with_reducible refine below_drewN ?_ _) | (with_reducible refine Below.setCell ?_ ?_ _) | (with_reducible refine below_via ?_ (by assumption) ?_) | (with_reducible refine below_ov ?_ ?_ _ _) | go_size)))).mono ?_); rintro e w1 ⟨al, ca, rfl, hI, hb⟩; refine Exists.elim (after1 (w := w) (b0 := w.heap.size) (cs0 := ?_) (T0 := ?_) hb ?_ ?_) ?_; rotate_left 2; (focus ((repeat' (first | (with_reducible exact Below.refl _ _) | (with_reducible assumption) | (with_reducible refine below_from_drew ?_) | (with_reducible refine Below.alloc ?_ ?_ _) | (with_reducible refine Below.drew ?_) | (with_reducible refine below_drewN ?_ _) | (with_reducible refine Below.setCell ?_ ?_ _) | (with_reducible refine below_via ?_ (by assumption) ?_) | (with_reducible refine below_ov ?_ ?_ _ _) | go_size)); done)); (focus ((repeat' (first | (with_reducible refine has_drew ?_) | (with_reducible refine has_drewN ?_) | (with_reducible refine has_new ?_; (first | (with_reducible rfl) | omega | (simp; done) | (simp; omega))) | (with_reducible refine has_ov_same ?_; (first | (with_reducible rfl) | omega | (simp; done) | (simp; omega))) | (with_reducible refine has_alloc ?_) | (with_reducible refine has_ov_other ?_ ?_; (focus (first | (with_reducible rfl) | omega | (simp; done) | (simp; omega)))) | (with_reducible assumption) | (with_reducible exact has_below hB (by assumption)))); done)); rintro u1 ⟨rfl, hB, hz, z0, o0⟩; (try simp only [World.size_alloc, World.size_setCell, World.size_drew, ov_size] at hz))
  obtain ⟨W, hW⟩ : ∃ W, W = ov u1 w.heap.size #[.slice a n c] 26 := ⟨_, rfl⟩
  have hBW : Below w.heap.size w W := by rw [hW]; (repeat' (first | (with_reducible exact Below.refl _ _) | (with_reducible assumption) | (with_reducible refine below_from_drew ?_) | (with_reducible refine Below.alloc ?_ ?_ _) | (with_reducible refine Below.drew ?_) | (with_reducible refine below_drewN ?_ _) | (with_reducible refine Below.setCell ?_ ?_ _) | (with_reducible refine below_via ?_ (by assumption) ?_) | (with_reducible refine below_ov ?_ ?_ _ _) | go_size))
  rw [← hW] at hI
  have HI := Lib.hid hI; have HBW0 := Lib.hid hBW; have hzW := hBW.size
  clear hI hb hB hBW hz z0 o0
  go_wp2_with fail
  rw [← hW]
  clear hW
  go_loopw [3, 9] (fun sv iv wr => ∃ i : Nat, iv = .int .i64 (i : Int) ∧ i ≤ rl ∧ sv = .int .i64 (sumQ (R.take i)) ∧ Below W.heap.size W wr) (fun _ iv _ => rl - (intOf iv).toNat)
  case atStart => exact ⟨0, rfl, Nat.zero_le _, rfl, Below.refl _ _⟩
  case round =>
    obtain ⟨i, rfl, hi, rfl, hbw⟩ := hrel
    have HBW := Lib.hid hbw
    have HBX := Lib.hid (below_via HBW0.out hbw hzW)
    have hzr := hbw.size
    clear hbw
    rcases Nat.lt_or_ge i rl with c1 | c1
    · have c2 : (i : Int) < rl := by omega
      have c3 : (0 : Int) ≤ (i : Int) := by omega
      obtain ⟨b, off, rfl, hbl, hc⟩ := (HI.out.below HBW.out) (by rw [HRL.out]; omega)
      obtain ⟨k0, k1, k2, k3⟩ := hc i (by rw [HRL.out]; exact c1)
      have hsn := sumQ_snoc (R.take i) (R.getD i q0Z)
      rw [← take_snocQ (by rw [HRL.out]; exact c1)] at hsn
      have hs1 := sumQ_take R (i + 1)
      have hs2 := sumQ_pos (R.take (i + 1))
      have hs3 := sumQ_pos (R.take i)
      have hs4 := (area_in (R.getD i q0Z).1 (R.getD i q0Z).2.1 (R.getD i q0Z).2.2.1 (R.getD i q0Z).2.2.2).1
      have hs5 := HS.out
      rw [hsn] at hs1 hs2
      generalize hq : R.getD i q0Z = q at *
      obtain ⟨x0, y0, x1, y1⟩ := q
      have HQ := Lib.hid hq
      simp only at k0 k1 k2 k3 hs4
      have ha : areaQ (x0, y0, x1, y1) = areaR x0 y0 x1 y1 := rfl
      rw [ha] at hsn hs1 hs2
      have HSN := Lib.hid hsn
      have hob : Old wr b := hbl
      generalize sumQ (R.take i) = s at *
      generalize hA : areaR x0 y0 x1 y1 = A at *
      have HA := Lib.hid (fun u => hA ▸ area_any x0 y0 x1 y1 u)
      have hw : -9223372036854775808 ≤ s + A ∧ s + A ≤ 9223372036854775807 := by omega
      obtain ⟨hw1, hw2⟩ := hw
      clear hc hq hsn ha hA hs1 hs2 hs4 hs5
      go_wp2_with (go_at_call 31; (with_reducible refine (HA.out _).mono ?_); rintro e w1 ⟨rfl, hb⟩; refine Exists.elim (after1 (w := wr) (b0 := wr.heap.size) (cs0 := ?_) (T0 := ?_) hb ?_ ?_) ?_; rotate_left 2; (focus ((repeat' (first | (with_reducible exact Below.refl _ _) | (with_reducible assumption) | (with_reducible refine below_from_drew ?_) | (with_reducible refine Below.alloc ?_ ?_ _) | (with_reducible refine Below.drew ?_) | (with_reducible refine below_drewN ?_ _) | (with_reducible refine Below.setCell ?_ ?_ _) | (with_reducible refine below_via ?_ (by assumption) ?_) | (with_reducible refine below_ov ?_ ?_ _ _) | go_size)); done)); (focus ((repeat' (first | (with_reducible refine has_drew ?_) | (with_reducible refine has_drewN ?_) | (with_reducible refine has_new ?_; (first | (with_reducible rfl) | omega | (simp; done) | (simp; omega))) | (with_reducible refine has_ov_same ?_; (first | (with_reducible rfl) | omega | (simp; done) | (simp; omega))) | (with_reducible refine has_alloc ?_) | (with_reducible refine has_ov_other ?_ ?_; (focus (first | (with_reducible rfl) | omega | (simp; done) | (simp; omega)))) | (with_reducible assumption) | (with_reducible exact has_below hB (by assumption)))); done)); rintro u2 ⟨rfl, hB, hz, z0, o0⟩; (try simp only [World.size_alloc, World.size_setCell, World.size_drew, ov_size] at hz))
      go_wp2_with fail
      go_roundw
      case rel => exact ⟨i + 1, by go_num, by omega, by rw [HSN.out], by have q := HBW.out; (repeat' (first | (with_reducible exact Below.refl _ _) | (with_reducible assumption) | (with_reducible refine below_from_drew ?_) | (with_reducible refine Below.alloc ?_ ?_ _) | (with_reducible refine Below.drew ?_) | (with_reducible refine below_drewN ?_ _) | (with_reducible refine Below.setCell ?_ ?_ _) | (with_reducible refine below_via ?_ (by assumption) ?_) | (with_reducible refine below_ov ?_ ?_ _ _) | go_size))⟩
      case measure => simp [intOf]; omega
    · obtain rfl : i = rl := by omega
      have c2 : decide ((i : Int) < i) = false := by simp
      have hf : R.take i = R := List.take_of_length_le (by rw [HRL.out]; exact Nat.le_refl _)
      rw [hf]
      go_wp2_with fail
      go_ret
      exact ⟨rfl, HBX.out⟩
theorem RectsAt.but {w w1 : World} {a : Option Addr} {l : List RectQ} {q : Nat} (h : RectsAt w a l) (hb : But q w.heap.size w w1) (hq : ∀ b off, a = some ⟨b, off, none⟩ → b ≠ q) : RectsAt w1 a l := fun h0 => by
  obtain ⟨b, off, h1, h2, h4⟩ := h h0
  have hc : ∀ o, w1.cell? ⟨b, o, none⟩ = w.cell? ⟨b, o, none⟩ := fun o => World.cell?_of_block (a := ⟨b, o, none⟩) (hb.block b h2 (hq b off h1))
  refine ⟨b, off, h1, Nat.lt_of_lt_of_le h2 hb.size, fun i hi => ?_⟩
  obtain ⟨k0, k1, k2, k3⟩ := h4 i hi
  exact ⟨(hc _).trans k0, (hc _).trans k1, (hc _).trans k2, (hc _).trans k3⟩
theorem row_addr {w : World} {base size n c : Nat} {e : TypeId} {a : Option Addr} {xs : List Value} (h : w.ownsRow base e size (.slice a n c) n xs) : ∀ b off, a = some ⟨b, off, none⟩ → base ≤ b := by
  rintro b off rfl
  rcases h.2 with ⟨h1, _⟩ | ⟨g, cap, cur, h1, hb, _⟩
  · cases h1
  · cases h1; exact hb
def qC (q : RectQ) : Array Value := #[.int .i64 q.1, .int .i64 q.2.1, .int .i64 q.2.2.1, .int .i64 q.2.2.2]
set_option maxRecDepth 100000 in
set_option maxHeartbeats 4000000 in
theorem rhull_any (a : Option Addr) (n c : Nat) (B : List BandZ) (w : World) (hB : RegOk B) (hn : B.length = n) (h : BandsAt w a B) (hRl : (rectsZ B).length ≤ 1000000000000) (H0 H1 H2 H3 : Int) (hH : hullQ (rectsZ B) = (H0, H1, H2, H3)) :
    Calls Try.prog 27 #[.agg #[.slice a n c]] w fun e w' => e = .returned (.agg #[.int .i64 (H0), .int .i64 (H1), .int .i64 (H2), .int .i64 (H3)]) ∧ Below w.heap.size w w' := by
  have HRC := Lib.hid (fun u (hb : Below w.heap.size w u) => rects_own a n c B u hB hn (h.below hb) _ rfl hRl)
  generalize rectsZ B = R at *
  have HH := Lib.hid hH
  clear hB hn h hH
  obtain ⟨rl, hrl⟩ : ∃ rl, R.length = rl := ⟨_, rfl⟩
  rw [hrl] at hRl HRC
  have HRL := Lib.hid hrl
  clear hrl
  go_enter Try.func27, Try.ntmps27
  go_wp2_with (go_at_call 26; (with_reducible refine (HRC.out _ (by (repeat' (first | (with_reducible exact Below.refl _ _) | (with_reducible assumption) | (with_reducible refine below_from_drew ?_) | (with_reducible refine Below.alloc ?_ ?_ _) | (with_reducible refine Below.drew ?_) | (with_reducible refine below_drewN ?_ _) | (with_reducible refine Below.setCell ?_ ?_ _) | (with_reducible refine below_via ?_ (by assumption) ?_) | (with_reducible refine below_ov ?_ ?_ _ _) | go_size)))).mono ?_); rintro e w1 ⟨al, ca, rfl, hI, hb⟩; refine Exists.elim (after3 (w := w) (b0 := w.heap.size) (cs0 := ?_) (T0 := ?_) (b1 := w.heap.size + 1) (cs1 := ?_) (T1 := ?_) (b2 := w.heap.size + 1 + 1) (cs2 := ?_) (T2 := ?_) hb ?_ ?_ ?_ ?_) ?_; rotate_left 6; (focus ((repeat' (first | (with_reducible exact Below.refl _ _) | (with_reducible assumption) | (with_reducible refine below_from_drew ?_) | (with_reducible refine Below.alloc ?_ ?_ _) | (with_reducible refine Below.drew ?_) | (with_reducible refine below_drewN ?_ _) | (with_reducible refine Below.setCell ?_ ?_ _) | (with_reducible refine below_via ?_ (by assumption) ?_) | (with_reducible refine below_ov ?_ ?_ _ _) | go_size)); done)); (focus ((repeat' (first | (with_reducible refine has_drew ?_) | (with_reducible refine has_drewN ?_) | (with_reducible refine has_new ?_; (first | (with_reducible rfl) | omega | (simp; done) | (simp; omega))) | (with_reducible refine has_ov_same ?_; (first | (with_reducible rfl) | omega | (simp; done) | (simp; omega))) | (with_reducible refine has_alloc ?_) | (with_reducible refine has_ov_other ?_ ?_; (focus (first | (with_reducible rfl) | omega | (simp; done) | (simp; omega)))) | (with_reducible assumption) | (with_reducible exact has_below hB (by assumption)))); done)); (focus ((repeat' (first | (with_reducible refine has_drew ?_) | (with_reducible refine has_drewN ?_) | (with_reducible refine has_new ?_; (first | (with_reducible rfl) | omega | (simp; done) | (simp; omega))) | (with_reducible refine has_ov_same ?_; (first | (with_reducible rfl) | omega | (simp; done) | (simp; omega))) | (with_reducible refine has_alloc ?_) | (with_reducible refine has_ov_other ?_ ?_; (focus (first | (with_reducible rfl) | omega | (simp; done) | (simp; omega)))) | (with_reducible assumption) | (with_reducible exact has_below hB (by assumption)))); done)); (focus ((repeat' (first | (with_reducible refine has_drew ?_) | (with_reducible refine has_drewN ?_) | (with_reducible refine has_new ?_; (first | (with_reducible rfl) | omega | (simp; done) | (simp; omega))) | (with_reducible refine has_ov_same ?_; (first | (with_reducible rfl) | omega | (simp; done) | (simp; omega))) | (with_reducible refine has_alloc ?_) | (with_reducible refine has_ov_other ?_ ?_; (focus (first | (with_reducible rfl) | omega | (simp; done) | (simp; omega)))) | (with_reducible assumption) | (with_reducible exact has_below hB (by assumption)))); done)); rintro u1 ⟨rfl, hB, hz, z0, o0, z1, o1, z2, o2⟩; (try simp only [World.size_alloc, World.size_setCell, World.size_drew, ov_size] at hz))
  obtain ⟨W, hW⟩ : ∃ W, W = ov (ov (ov u1 w.heap.size #[.slice a n c] 26) (w.heap.size + 1) #[.int .i64 0, .int .i64 0, .int .i64 0, .int .i64 0] 40) (w.heap.size + 1 + 1) #[.int .i64 0, .int .i64 0, .int .i64 0, .int .i64 0] 40 := ⟨_, rfl⟩
  have hBW : Below w.heap.size w W := by rw [hW]; (repeat' (first | (with_reducible exact Below.refl _ _) | (with_reducible assumption) | (with_reducible refine below_from_drew ?_) | (with_reducible refine Below.alloc ?_ ?_ _) | (with_reducible refine Below.drew ?_) | (with_reducible refine below_drewN ?_ _) | (with_reducible refine Below.setCell ?_ ?_ _) | (with_reducible refine below_via ?_ (by assumption) ?_) | (with_reducible refine below_ov ?_ ?_ _ _) | go_size))
  have hH1 : Has W (w.heap.size + 1) #[.int .i64 0, .int .i64 0, .int .i64 0, .int .i64 0] 40 := by rw [hW]; (repeat' (first | (with_reducible refine has_drew ?_) | (with_reducible refine has_drewN ?_) | (with_reducible refine has_new ?_; (first | (with_reducible rfl) | omega | (simp; done) | (simp; omega))) | (with_reducible refine has_ov_same ?_; (first | (with_reducible rfl) | omega | (simp; done) | (simp; omega))) | (with_reducible refine has_alloc ?_) | (with_reducible refine has_ov_other ?_ ?_; (focus (first | (with_reducible rfl) | omega | (simp; done) | (simp; omega)))) | (with_reducible assumption) | (with_reducible exact has_below hB (by assumption))))
  have hH2 : Has W (w.heap.size + 1 + 1) #[.int .i64 0, .int .i64 0, .int .i64 0, .int .i64 0] 40 := by rw [hW]; (repeat' (first | (with_reducible refine has_drew ?_) | (with_reducible refine has_drewN ?_) | (with_reducible refine has_new ?_; (first | (with_reducible rfl) | omega | (simp; done) | (simp; omega))) | (with_reducible refine has_ov_same ?_; (first | (with_reducible rfl) | omega | (simp; done) | (simp; omega))) | (with_reducible refine has_alloc ?_) | (with_reducible refine has_ov_other ?_ ?_; (focus (first | (with_reducible rfl) | omega | (simp; done) | (simp; omega)))) | (with_reducible assumption) | (with_reducible exact has_below hB (by assumption))))
  rw [← hW] at hI
  simp only [World.size_alloc] at hI
  have HI := Lib.hid hI; have HBW0 := Lib.hid hBW; have hzW := hBW.size; have HH1 := Lib.hid hH1; have HH2 := Lib.hid hH2
  have hzW2 := hH2.lt
  rw [← hW]
  clear hI hb hB hBW hz z0 o0 z1 o1 z2 o2 hH1 hH2 hW
  go_loopw [9] (fun iv wr => ∃ i : Nat, iv = .int .i64 (i : Int) ∧ i ≤ rl ∧ Has wr (w.heap.size + 1 + 1) (qC (hullQ (R.take i))) 40 ∧ But (w.heap.size + 1 + 1) W.heap.size W wr) (fun iv _ => rl - (intOf iv).toNat)
  case atStart => exact ⟨0, rfl, Nat.zero_le _, HH2.out, But.refl _ _ _⟩
  case round =>
    obtain ⟨i, rfl, hi, hq, hbut⟩ := hrel
    have hzr := hbut.size
    have hql := hq.lt
    have HBUT := Lib.hid hbut; have HQ := Lib.hid hq
    have HR1 := Lib.hid (hbut.has HH1.out (by omega))
    clear hbut hq
    rcases Nat.lt_or_ge i rl with c1 | c1
    · have c2 : (i : Int) < rl := by omega
      have c3 : (0 : Int) ≤ (i : Int) := by omega
      have hra := rectsAt_owned HI.out HRL.out
      obtain ⟨b, off, rfl, hbl, hc⟩ := (hra.but HBUT.out (fun b off e => by have := row_addr HI.out b off e; omega)) (by rw [HRL.out]; omega)
      obtain ⟨k0, k1, k2, k3⟩ := hc i (by rw [HRL.out]; exact c1)
      have hsn := hullQ_snoc (R.take i) (R.getD i q0Z)
      rw [← take_snocQ (by rw [HRL.out]; exact c1)] at hsn
      generalize R.getD i q0Z = q at *
      obtain ⟨x0, y0, x1, y1⟩ := q
      simp only at k0 k1 k2 k3
      have HSN := Lib.hid hsn
      have hob : Old wr b := hbl
      have hq2 := HQ.out
      generalize hullQ (R.take i) = p at *
      obtain ⟨p0, p1, p2, p3⟩ := p
      have hq3 : Has wr (w.heap.size + 1 + 1) #[.int .i64 p0, .int .i64 p1, .int .i64 p2, .int .i64 p3] 40 := hq2
      have hbo : Below wr.heap.size wr (ov wr (w.heap.size + 1 + 1) #[.int .i64 p0, .int .i64 p1, .int .i64 p2, .int .i64 p3] 40) := by rw [ov_self hq3]; exact Below.refl _ _
      have hne : b ≠ w.heap.size + 1 + 1 := fun e => by have := row_addr HI.out b off rfl; omega
      have hne2 : ¬ (w.heap.size + 1 + 1 = wr.heap.size) := by omega
      rw [← ov_self hq3]
      clear hc hsn hra hq2 HQ hq3
      go_wp2_with (go_at_call 33; (with_reducible refine (hull_any _ _ _ _ _ _ _ _ _).mono ?_); rintro e w1 ⟨rfl, hb⟩; refine Exists.elim (after2 (w := wr) (b0 := wr.heap.size) (cs0 := ?_) (T0 := ?_) (b1 := w.heap.size + 1 + 1) (cs1 := ?_) (T1 := ?_) hb ?_ ?_ ?_) ?_; rotate_left 4; (focus ((repeat' (first | (with_reducible exact Below.refl _ _) | (with_reducible assumption) | (with_reducible refine below_from_drew ?_) | (with_reducible refine Below.alloc ?_ ?_ _) | (with_reducible refine Below.drew ?_) | (with_reducible refine below_drewN ?_ _) | (with_reducible refine Below.setCell ?_ ?_ _) | (with_reducible refine below_via ?_ (by assumption) ?_) | (with_reducible refine below_ov ?_ ?_ _ _) | go_size)); done)); (focus ((repeat' (first | (with_reducible refine has_drew ?_) | (with_reducible refine has_drewN ?_) | (with_reducible refine has_new ?_; (first | (with_reducible rfl) | omega | (simp; done) | (simp; omega))) | (with_reducible refine has_ov_same ?_; (first | (with_reducible rfl) | omega | (simp; done) | (simp; omega))) | (with_reducible refine has_alloc ?_) | (with_reducible refine has_ov_other ?_ ?_; (focus (first | (with_reducible rfl) | omega | (simp; done) | (simp; omega)))) | (with_reducible assumption) | (with_reducible exact has_below hB (by assumption)))); done)); (focus ((repeat' (first | (with_reducible refine has_drew ?_) | (with_reducible refine has_drewN ?_) | (with_reducible refine has_new ?_; (first | (with_reducible rfl) | omega | (simp; done) | (simp; omega))) | (with_reducible refine has_ov_same ?_; (first | (with_reducible rfl) | omega | (simp; done) | (simp; omega))) | (with_reducible refine has_alloc ?_) | (with_reducible refine has_ov_other ?_ ?_; (focus (first | (with_reducible rfl) | omega | (simp; done) | (simp; omega)))) | (with_reducible assumption) | (with_reducible exact has_below hB (by assumption)))); done)); rintro u2 ⟨rfl, hB, hz, z0, o0, z1, o1⟩; (try simp only [World.size_alloc, World.size_setCell, World.size_drew, ov_size] at hz))
      go_wp2_with fail
      go_roundw
      case rel =>
        refine ⟨i + 1, by go_num, by omega, ?_, But.ovs (HBUT.out.then (show Below wr.heap.size wr _ by (repeat' (first | (with_reducible exact Below.refl _ _) | (with_reducible assumption) | (with_reducible refine below_from_drew ?_) | (with_reducible refine Below.alloc ?_ ?_ _) | (with_reducible refine Below.drew ?_) | (with_reducible refine below_drewN ?_ _) | (with_reducible refine Below.setCell ?_ ?_ _) | (with_reducible refine below_via ?_ (by assumption) ?_) | (with_reducible refine below_ov ?_ ?_ _ _) | go_size))) hzr) _ _⟩
        rw [HSN.out]
        exact has_ov_same (by simp; omega)
      case measure => simp [intOf]; omega
    · obtain rfl : i = rl := by omega
      have c2 : decide ((i : Int) < i) = false := by simp
      have hf : R.take i = R := List.take_of_length_le (by rw [HRL.out]; exact Nat.le_refl _)
      have hq2 := HQ.out
      rw [hf, HH.out] at hq2
      have hq3 : Has wr (w.heap.size + 1 + 1) #[.int .i64 H0, .int .i64 H1, .int .i64 H2, .int .i64 H3] 40 := hq2
      have hk := hq3.cells
      have hl1 := HR1.out.lt
      rw [← ov_self HR1.out]
      clear hq2 HQ
      go_wp2_with fail
      refine bodyPost_ret (by simp [results, Try.results27, go_sem, hl1]; try rfl) rfl ?_
      refine ⟨rfl, below_ov ?_ (by omega) _ _⟩
      exact ⟨HBUT.out.os.trans HBW0.out.os, HBUT.out.tape.trans HBW0.out.tape, HBUT.out.output.trans HBW0.out.output, by omega, fun k hk => (HBUT.out.block k (by omega) (by omega)).trans (HBW0.out.block k hk)⟩
end Go.Proofs.Ytkpamofamcndnaa
