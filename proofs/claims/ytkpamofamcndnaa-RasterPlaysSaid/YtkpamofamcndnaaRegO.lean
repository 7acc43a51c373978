/- package region: Move, Same by contract. -/
import Derived.Test.YtkpamofamcndnaaRegN
namespace Go.Proofs.Ytkpamofamcndnaa
open Go.RowKit Go.Shelf
set_option linter.unusedSimpArgs false
set_option linter.unusedVariables false
-- below_from_drew
attribute [local go_sem] ov_cell_same ov_cell_other ov_frozen_same ov_frozen_other ov_size ov_setCell_same ov_setCell_other cell_alloc_old frozen_alloc_old setCell_alloc_old old_alloc old_ov old_drew old_drewN old_setCell
attribute [local go_sem ↓] run_max2 run_min2 eql_rect

theorem rowv_ne {u : World} {b base size n : Nat} {cs : Array Value} {T e : TypeId} {v : Value} {xs : List Value} (h : u.ownsRow base e size v n xs) (hb : v.ownBlock ≠ some b) : (ov u b cs T).ownsRow base e size v n xs := by
  refine ⟨h.1, ?_⟩
  rcases h.2 with hn | ⟨g, cap, cur, rfl, hg, hgg, rest⟩
  · exact .inl hn
  · refine .inr ⟨g, cap, cur, rfl, hg, ?_, rest⟩
    rw [← hgg]
    refine Array.getElem?_setIfInBounds_ne (fun e => hb ?_)
    simp [Value.ownBlock, e]
def mvQ (x y : Int) (q : RectQ) : RectQ := (i0 q.1 q.2.1 q.2.2.1 q.2.2.2 (farI y) (-farI x) (-farI y) (farI x), i1 q.1 q.2.1 q.2.2.1 q.2.2.2 (farI y) (-farI x) (-farI y) (farI x), i2 q.1 q.2.1 q.2.2.1 q.2.2.2 (farI y) (-farI x) (-farI y) (farI x), i3 q.1 q.2.1 q.2.2.1 q.2.2.2 (farI y) (-farI x) (-farI y) (farI x))
set_option maxRecDepth 100000 in
set_option maxHeartbeats 8000000 in
theorem rmove_any (a : Option Addr) (n c : Nat) (dx dy : Int) (B : List BandZ) (w : World) (hB : RegOk B) (hn : B.length = n) (h : BandsAt w a B) (hRl : (rectsZ B).length ≤ 1000000000) (R : List BandZ) (hR : ofL ((rectsZ B).map (mvQ dx dy)) = R) :
    Calls Try.prog 15 #[.agg #[.slice a n c], .int .i64 dx, .int .i64 dy] w fun e w' => ∃ al ca, e = .returned (.agg #[.slice al R.length ca]) ∧ BandsAt w' al R ∧ Below w.heap.size w w' := by
  obtain ⟨i0', hi0, hz0, hz1, hz2⟩ := info_parts infoRc
  have HRC := Lib.hid (fun u (hb : Below w.heap.size w u) => rects_any a n c B u hB hn (h.below hb) _ rfl (by omega))
  generalize rectsZ B = Q at *
  have HR := Lib.hid hR
  clear hB hn h hR
  obtain ⟨rl, hrl⟩ : ∃ rl, Q.length = rl := ⟨_, rfl⟩
  rw [hrl] at hRl HRC
  have HRL := Lib.hid hrl
  clear hrl
  go_enter Try.func15, Try.ntmps15
  go_wp2_with (go_at_call 26; (with_reducible refine (HRC.out _ (by (repeat' (first | (with_reducible exact Below.refl _ _) | (with_reducible assumption) | (with_reducible refine below_from_drew ?_) | (with_reducible refine Below.alloc ?_ ?_ _) | (with_reducible refine Below.drew ?_) | (with_reducible refine below_drewN ?_ _) | (with_reducible refine Below.setCell ?_ ?_ _) | (with_reducible refine below_via ?_ (by assumption) ?_) | (with_reducible refine below_ov ?_ ?_ _ _) | go_size)))).mono ?_); rintro e w1 ⟨al, ca, rfl, hI, hb⟩; refine Exists.elim (after2 (w := w) (b0 := w.heap.size) (cs0 := ?_) (T0 := ?_) (b1 := w.heap.size + 1) (cs1 := ?_) (T1 := ?_) hb ?_ ?_ ?_) ?_; rotate_left 4; (focus ((repeat' (first | (with_reducible exact Below.refl _ _) | (with_reducible assumption) | (with_reducible refine below_from_drew ?_) | (with_reducible refine Below.alloc ?_ ?_ _) | (with_reducible refine Below.drew ?_) | (with_reducible refine below_drewN ?_ _) | (with_reducible refine Below.setCell ?_ ?_ _) | (with_reducible refine below_via ?_ (by assumption) ?_) | (with_reducible refine below_ov ?_ ?_ _ _) | go_size)); done)); (focus ((repeat' (first | (with_reducible refine has_drew ?_) | (with_reducible refine has_drewN ?_) | (with_reducible refine has_new ?_; (first | (with_reducible rfl) | omega | (simp; done) | (simp; omega))) | (with_reducible refine has_ov_same ?_; (first | (with_reducible rfl) | omega | (simp; done) | (simp; omega))) | (with_reducible refine has_alloc ?_) | (with_reducible refine has_ov_other ?_ ?_; (focus (first | (with_reducible rfl) | omega | (simp; done) | (simp; omega)))) | (with_reducible assumption) | (with_reducible exact has_below hB (by assumption)))); done)); (focus ((repeat' (first | (with_reducible refine has_drew ?_) | (with_reducible refine has_drewN ?_) | (with_reducible refine has_new ?_; (first | (with_reducible rfl) | omega | (simp; done) | (simp; omega))) | (with_reducible refine has_ov_same ?_; (first | (with_reducible rfl) | omega | (simp; done) | (simp; omega))) | (with_reducible refine has_alloc ?_) | (with_reducible refine has_ov_other ?_ ?_; (focus (first | (with_reducible rfl) | omega | (simp; done) | (simp; omega)))) | (with_reducible assumption) | (with_reducible exact has_below hB (by assumption)))); done)); rintro u1 ⟨rfl, hB, hz, z0, o0, z1, o1⟩; (try simp only [World.size_alloc, World.size_setCell, World.size_drew, ov_size] at hz))
  obtain ⟨W, hW⟩ : ∃ W, W = ov (ov u1 w.heap.size #[.slice a n c] 26) (w.heap.size + 1) #[.slice none 0 0] 26 := ⟨_, rfl⟩
  have hBW : Below w.heap.size w W := by rw [hW]; (repeat' (first | (with_reducible exact Below.refl _ _) | (with_reducible assumption) | (with_reducible refine below_from_drew ?_) | (with_reducible refine Below.alloc ?_ ?_ _) | (with_reducible refine Below.drew ?_) | (with_reducible refine below_drewN ?_ _) | (with_reducible refine Below.setCell ?_ ?_ _) | (with_reducible refine below_via ?_ (by assumption) ?_) | (with_reducible refine below_ov ?_ ?_ _ _) | go_size))
  have hH1 : Has W (w.heap.size + 1) #[.slice none 0 0] 26 := by rw [hW]; (repeat' (first | (with_reducible refine has_drew ?_) | (with_reducible refine has_drewN ?_) | (with_reducible refine has_new ?_; (first | (with_reducible rfl) | omega | (simp; done) | (simp; omega))) | (with_reducible refine has_ov_same ?_; (first | (with_reducible rfl) | omega | (simp; done) | (simp; omega))) | (with_reducible refine has_alloc ?_) | (with_reducible refine has_ov_other ?_ ?_; (focus (first | (with_reducible rfl) | omega | (simp; done) | (simp; omega)))) | (with_reducible assumption) | (with_reducible exact has_below hB (by assumption))))
  rw [← hW] at hI
  have HI := Lib.hid hI; have HBW0 := Lib.hid hBW; have hzW := hBW.size; have HH1 := Lib.hid hH1
  have hzW1 := hH1.lt
  go_wp2_with fail
  rw [← hW]
  clear hI hb hB hBW hz z0 o0 z1 o1 hH1 hW
  go_loopw [7, 13] (fun sv iv wr => ∃ (i : Nat) (ao : Option Addr) (co : Nat), iv = .int .i64 (i : Int) ∧ i ≤ rl ∧ sv = .slice ao i co ∧ Below W.heap.size W wr ∧ wr.ownsRow W.heap.size 40 4 (.slice ao i co) i (rectCells ((Q.map (mvQ dx dy)).take i))) (fun _ iv _ => rl - (intOf iv).toNat)
  case atStart => exact ⟨0, none, 0, rfl, Nat.zero_le _, rfl, Below.refl _ _, World.ownsRow_nil _ _ _ _⟩
  case round =>
    obtain ⟨i, ao, co, rfl, hi, rfl, hbw, hown⟩ := hrel
    have hzr := hbw.size
    have HBW := Lib.hid hbw; have HO := Lib.hid hown
    clear hbw hown
    rcases Nat.lt_or_ge i rl with c1 | c1
    · have c2 : (i : Int) < rl := by omega
      have c3 : (0 : Int) ≤ (i : Int) := by omega
      obtain ⟨b, off, rfl, hbl, hc⟩ := (HI.out.below HBW.out) (by rw [HRL.out]; omega)
      obtain ⟨k0, k1, k2, k3⟩ := hc i (by rw [HRL.out]; exact c1)
      have hsn := take_snocQ (l := Q.map (mvQ dx dy)) (i := i) (by rw [List.length_map, HRL.out]; exact c1)
      have hg : (Q.map (mvQ dx dy)).getD i q0Z = mvQ dx dy (Q.getD i q0Z) := by simp [List.getD_eq_getElem?_getD, HRL.out, c1]
      rw [hg] at hsn
      generalize Q.getD i q0Z = q at *
      obtain ⟨x0, y0, x1, y1⟩ := q
      simp only at k0 k1 k2 k3
      have HMV := Lib.hid (move_any x0 y0 x1 y1 dx dy)
      have hmv : mvQ dx dy (x0, y0, x1, y1) = (i0 x0 y0 x1 y1 (farI dy) (-farI dx) (-farI dy) (farI dx), i1 x0 y0 x1 y1 (farI dy) (-farI dx) (-farI dy) (farI dx), i2 x0 y0 x1 y1 (farI dy) (-farI dx) (-farI dy) (farI dx), i3 x0 y0 x1 y1 (farI dy) (-farI dx) (-farI dy) (farI dx)) := rfl
      rw [hmv] at hsn
      have HSN := Lib.hid hsn
      have hob : Old wr b := hbl
      clear hc hsn hg hmv
      generalize i0 x0 y0 x1 y1 (farI dy) (-farI dx) (-farI dy) (farI dx) = m0 at *
      generalize i1 x0 y0 x1 y1 (farI dy) (-farI dx) (-farI dy) (farI dx) = m1 at *
      generalize i2 x0 y0 x1 y1 (farI dy) (-farI dx) (-farI dy) (farI dx) = m2 at *
      generalize i3 x0 y0 x1 y1 (farI dy) (-farI dx) (-farI dy) (farI dx) = m3 at *
      go_wp2_with (first | (go_at_call 34; (with_reducible refine (HMV.out _).mono ?_); rintro e w1 ⟨rfl, hb⟩; refine Exists.elim (after1 (w := wr) (b0 := wr.heap.size) (cs0 := ?_) (T0 := ?_) hb ?_ ?_) ?_; rotate_left 2; (focus ((repeat' (first | (with_reducible exact Below.refl _ _) | (with_reducible assumption) | (with_reducible refine below_from_drew ?_) | (with_reducible refine Below.alloc ?_ ?_ _) | (with_reducible refine Below.drew ?_) | (with_reducible refine below_drewN ?_ _) | (with_reducible refine Below.setCell ?_ ?_ _) | (with_reducible refine below_via ?_ (by assumption) ?_) | (with_reducible refine below_ov ?_ ?_ _ _) | go_size)); done)); (focus ((repeat' (first | (with_reducible refine has_drew ?_) | (with_reducible refine has_drewN ?_) | (with_reducible refine has_new ?_; (first | (with_reducible rfl) | omega | (simp; done) | (simp; omega))) | (with_reducible refine has_ov_same ?_; (first | (with_reducible rfl) | omega | (simp; done) | (simp; omega))) | (with_reducible refine has_alloc ?_) | (with_reducible refine has_ov_other ?_ ?_; (focus (first | (with_reducible rfl) | omega | (simp; done) | (simp; omega)))) | (with_reducible assumption) | (with_reducible exact has_below hB (by assumption)))); done)); rintro u2 ⟨rfl, hB, hz, z0, o0⟩; (try simp only [World.size_alloc, World.size_setCell, World.size_drew, ov_size] at hz)) | (at_builtin; refine wpList_append_own _ rfl _ _ 57 rfl W.heap.size 40 i0' (.agg #[.int .i64 0, .int .i64 0, .int .i64 0, .int .i64 0]) 4 32 Try.underlying57 hi0 hz0 hz1 hz2 rfl (by decide) _ _ _ rfl ((rowv_ne (row_below hB HO.out) (row_ne_new HO.out (Nat.le_refl _))).alloc _) ⟨u2.heap.size, 0, none⟩ 1 1 [.int .i64 m0, .int .i64 m1, .int .i64 m2, .int .i64 m3] rfl rfl (newi_at (by simp)) (one_of rfl) (by unfold maxLen; omega) (by omega) (by simp; omega) ?_))
      intro v7 w7 hown7 hgrow7 hnil7
      have hB7 : Below W.heap.size W w7 := Below.grown (show Below W.heap.size W _ by have q := HBW.out; have q2 := below_via q hB hzr; (repeat' (first | (with_reducible exact Below.refl _ _) | (with_reducible assumption) | (with_reducible refine below_from_drew ?_) | (with_reducible refine Below.alloc ?_ ?_ _) | (with_reducible refine Below.drew ?_) | (with_reducible refine below_drewN ?_ _) | (with_reducible refine Below.setCell ?_ ?_ _) | (with_reducible refine below_via ?_ (by assumption) ?_) | (with_reducible refine below_ov ?_ ?_ _ _) | go_size))) hgrow7 (by simp; omega) (fun bb h => by have := row_block HO.out bb h; omega)
      obtain ⟨al7, ca7, rfl, _, _⟩ := row_reads hown7
      have HB7 := Lib.hid hB7; have HO7 := Lib.hid hown7
      clear hgrow7 hB7 hown7 hnil7 hB hb
      go_wp2_with fail
      go_roundw
      case rel => exact ⟨i + 1, al7, ca7, by go_num, by omega, rfl, HB7.out, by rw [HSN.out, rectCells_snoc]; exact HO7.out⟩
      case measure => simp [intOf]; omega
    · obtain rfl : i = rl := by omega
      have c2 : decide ((i : Int) < i) = false := by simp
      have hf : (Q.map (mvQ dx dy)).take i = Q.map (mvQ dx dy) := List.take_of_length_le (by rw [List.length_map, HRL.out]; exact Nat.le_refl _)
      have ho := HO.out
      rw [hf] at ho
      obtain ⟨a2, c2', e2, hc1, hc2, _⟩ := row_reads ho
      cases e2
      have hra := rectsAt_owned ho (by rw [List.length_map, HRL.out])
      have HOF := Lib.hid (of_any' (i + 1) ao i co (Q.map (mvQ dx dy)) wr (by omega) (by rw [List.length_map, HRL.out]) hc1 hc2 hra)
      rw [HR.out] at HOF
      have hr1 := has_below HBW.out HH1.out
      have hl1 := hr1.lt
      clear hf ho hra HRC
      go_wp2_with fail
      refine HOF.out.mono ?_
      rintro e w5 ⟨a3, c3, rfl, hI5, hb5⟩
      have hr5 := has_below hb5 hr1
      have hl5 := hr5.lt
      have hB5 : Below w.heap.size w w5 := below_via (below_via HBW0.out HBW.out hzW) hb5 (by omega)
      have HI5 := Lib.hid hI5; have HR5 := Lib.hid hr5; have HB5 := Lib.hid hB5
      rw [← ov_self hr5]
      clear hI5 hb5 hB5 hr5 hr1
      go_wp2_with fail
      refine bodyPost_ret (by simp [results, Try.results15, go_sem, hl5]; try rfl) rfl ?_
      exact ⟨a3, c3, rfl, bandsAt_ov HI5.out HR5.out, below_ov HB5.out (by omega) _ _⟩
theorem neq_rect (a b c d x y z t : Int) (w : World) : (binOp .neq 40 (.agg #[.int .i64 a, .int .i64 b, .int .i64 c, .int .i64 d]) (.agg #[.int .i64 x, .int .i64 y, .int .i64 z, .int .i64 t])).run Try.prog w = .ok (.bool (!eq4 a b c d x y z t)) w := by
  by_cases h1 : a = x <;> by_cases h2 : b = y <;> by_cases h3 : c = z <;> by_cases h4 : d = t <;> simp [go_sem, eq4, h1, h2, h3, h4]
attribute [local go_sem ↓] neq_rect
theorem getD_eqQ {l k : List RectQ} {n : Nat} (hl : l.length = n) (hk : k.length = n) (h : ∀ i, i < n → l.getD i q0Z = k.getD i q0Z) : l = k := by
  apply List.ext_getElem (by omega)
  intro i h1 h2
  have := h i (by omega)
  simpa [List.getD_eq_getElem?_getD, h1, h2] using this
theorem eqQ_iff (p q : RectQ) : eq4 p.1 p.2.1 p.2.2.1 p.2.2.2 q.1 q.2.1 q.2.2.1 q.2.2.2 = true ↔ p = q := by
  rw [eq4_iff]
  obtain ⟨a, b, c, d⟩ := p
  obtain ⟨x, y, z, t⟩ := q
  simp
set_option maxRecDepth 100000 in
set_option maxHeartbeats 4000000 in
theorem equalR_any (a1 a2 : Option Addr) (n c m d : Nat) (l k : List RectQ) (w : World) (hl : l.length = n) (hk : k.length = m) (hn : n ≤ 1000000000000) (hm : m ≤ 1000000000000) (h1 : RectsAt w a1 l) (h2 : RectsAt w a2 k) :
    Calls Try.prog 61 #[.slice a1 n c, .slice a2 m d] w fun e w' => e = .returned (.bool (decide (l = k))) ∧ Below w.heap.size w w' := by
  have HL := Lib.hid hl; have HK := Lib.hid hk; have H1 := Lib.hid h1; have H2 := Lib.hid h2
  clear hl hk h1 h2
  by_cases hnm : n = m
  · subst hnm
    go_enter Try.func61, Try.ntmps61
    go_wp2_with fail
    go_loopw [13] (fun iv wr => ∃ i : Nat, iv = .int .i64 (i : Int) ∧ i ≤ n ∧ Below w.heap.size w wr ∧ ∀ j, j < i → l.getD j q0Z = k.getD j q0Z) (fun iv _ => n - (intOf iv).toNat)
    case atStart => exact ⟨0, rfl, Nat.zero_le _, Below.refl _ _, fun j hj => by omega⟩
    case round =>
      obtain ⟨i, rfl, hi, hbw, heq⟩ := hrel
      have hzr := hbw.size
      have HBW := Lib.hid hbw; have HE := Lib.hid heq
      clear hbw heq
      rcases Nat.lt_or_ge i n with c1 | c1
      · have c2 : (i : Int) < n := by omega
        have c3 : (0 : Int) ≤ (i : Int) := by omega
        obtain ⟨b, off, rfl, hbl, hc⟩ := (H1.out.below HBW.out) (by rw [HL.out]; omega)
        obtain ⟨b', off', rfl, hbl', hc'⟩ := (H2.out.below HBW.out) (by rw [HK.out]; omega)
        obtain ⟨k0, k1, k2, k3⟩ := hc i (by rw [HL.out]; exact c1)
        obtain ⟨j0, j1, j2, j3⟩ := hc' i (by rw [HK.out]; exact c1)
        have hob : Old wr b := hbl
        have hob' : Old wr b' := hbl'
        have hqi := eqQ_iff (l.getD i q0Z) (k.getD i q0Z)
        generalize hp : l.getD i q0Z = p at *
        generalize hq : k.getD i q0Z = q at *
        obtain ⟨x0, y0, x1, y1⟩ := p
        obtain ⟨z0, t0, z1, t1⟩ := q
        simp only at k0 k1 k2 k3 j0 j1 j2 j3 hqi
        have HP := Lib.hid hp; have HQ := Lib.hid hq; have HQI := Lib.hid hqi
        clear hc hc' hp hq hqi
        cases he : eq4 x0 y0 x1 y1 z0 t0 z1 t1 with
        | true =>
          have HEQ := Lib.hid (HQI.out.1 he)
          clear HQI
          go_wp2_with fail
          refine region_ord [(0, 0), (1, 0), (2, 0), (3, 0), (4, 0), (5, 0), (6, 0), (7, 0), (8, 0)] (by kernel_rfl) (by kernel_rfl) (fun _ _ d _ _ h => by cases d <;> exact h) (fun hS => ?_)
          (refine wpG_read (v := ?_) rfl (.inl ⟨by rfl, fun wx hbx => ?_⟩) ?_; rotate_left; (focus (obtain ⟨cx0, fx0, zx0⟩ := bk hbx (b) (by first | omega | (simp; done) | (simp; omega)); obtain ⟨cx1, fx1, zx1⟩ := bk hbx (b') (by first | omega | (simp; done) | (simp; omega)); go_simp; (try go_bits); (try with_reducible rfl))); try simp only [Act.put, List.setIfInBounds_toArray, List.set_cons_zero, List.set_cons_succ])
          (refine wpG_read (v := ?_) rfl (.inl ⟨by rfl, fun wx hbx => ?_⟩) ?_; rotate_left; (focus (obtain ⟨cx0, fx0, zx0⟩ := bk hbx (b) (by first | omega | (simp; done) | (simp; omega)); obtain ⟨cx1, fx1, zx1⟩ := bk hbx (b') (by first | omega | (simp; done) | (simp; omega)); go_simp; (try go_bits); (try with_reducible rfl))); try simp only [Act.put, List.setIfInBounds_toArray, List.set_cons_zero, List.set_cons_succ])
          (refine wpG_read (v := ?_) rfl (.inl ⟨by rfl, fun wx hbx => ?_⟩) ?_; rotate_left; (focus (obtain ⟨cx0, fx0, zx0⟩ := bk hbx (b) (by first | omega | (simp; done) | (simp; omega)); obtain ⟨cx1, fx1, zx1⟩ := bk hbx (b') (by first | omega | (simp; done) | (simp; omega)); go_simp; (try go_bits); (try with_reducible rfl))); try simp only [Act.put, List.setIfInBounds_toArray, List.set_cons_zero, List.set_cons_succ])
          (refine wpG_read (v := ?_) rfl (.inl ⟨by rfl, fun wx hbx => ?_⟩) ?_; rotate_left; (focus (obtain ⟨cx0, fx0, zx0⟩ := bk hbx (b) (by first | omega | (simp; done) | (simp; omega)); obtain ⟨cx1, fx1, zx1⟩ := bk hbx (b') (by first | omega | (simp; done) | (simp; omega)); go_simp; (try go_bits); (try with_reducible rfl))); try simp only [Act.put, List.setIfInBounds_toArray, List.set_cons_zero, List.set_cons_succ])
          (refine wpG_read (v := ?_) rfl (.inl ⟨by rfl, fun wx hbx => ?_⟩) ?_; rotate_left; (focus (obtain ⟨cx0, fx0, zx0⟩ := bk hbx (b) (by first | omega | (simp; done) | (simp; omega)); obtain ⟨cx1, fx1, zx1⟩ := bk hbx (b') (by first | omega | (simp; done) | (simp; omega)); go_simp; (try go_bits); (try with_reducible rfl))); try simp only [Act.put, List.setIfInBounds_toArray, List.set_cons_zero, List.set_cons_succ])
          (refine wpG_read (v := ?_) rfl (.inl ⟨by rfl, fun wx hbx => ?_⟩) ?_; rotate_left; (focus (obtain ⟨cx0, fx0, zx0⟩ := bk hbx (b) (by first | omega | (simp; done) | (simp; omega)); obtain ⟨cx1, fx1, zx1⟩ := bk hbx (b') (by first | omega | (simp; done) | (simp; omega)); go_simp; (try go_bits); (try with_reducible rfl))); try simp only [Act.put, List.setIfInBounds_toArray, List.set_cons_zero, List.set_cons_succ])
          (refine wpG_read (v := ?_) rfl (.inl ⟨by rfl, fun wx hbx => ?_⟩) ?_; rotate_left; (focus (obtain ⟨cx0, fx0, zx0⟩ := bk hbx (b) (by first | omega | (simp; done) | (simp; omega)); obtain ⟨cx1, fx1, zx1⟩ := bk hbx (b') (by first | omega | (simp; done) | (simp; omega)); go_simp; (try go_bits); (try with_reducible rfl))); try simp only [Act.put, List.setIfInBounds_toArray, List.set_cons_zero, List.set_cons_succ])
          (refine wpG_read (v := ?_) rfl (.inl ⟨by rfl, fun wx hbx => ?_⟩) ?_; rotate_left; (focus (obtain ⟨cx0, fx0, zx0⟩ := bk hbx (b) (by first | omega | (simp; done) | (simp; omega)); obtain ⟨cx1, fx1, zx1⟩ := bk hbx (b') (by first | omega | (simp; done) | (simp; omega)); go_simp; (try go_bits); (try with_reducible rfl))); try simp only [Act.put, List.setIfInBounds_toArray, List.set_cons_zero, List.set_cons_succ])
          (refine wpG_read (v := ?_) rfl (.inl ⟨by rfl, fun wx hbx => ?_⟩) ?_; rotate_left; (focus (obtain ⟨cx0, fx0, zx0⟩ := bk hbx (b) (by first | omega | (simp; done) | (simp; omega)); obtain ⟨cx1, fx1, zx1⟩ := bk hbx (b') (by first | omega | (simp; done) | (simp; omega)); go_simp; (try go_bits); (try with_reducible rfl))); try simp only [Act.put, List.setIfInBounds_toArray, List.set_cons_zero, List.set_cons_succ])
          refine wpG_nil ?_
          go_wp2_with fail
          go_roundw
          case rel => exact ⟨i + 1, by go_num, by omega, by have q := HBW.out; (repeat' (first | (with_reducible exact Below.refl _ _) | (with_reducible assumption) | (with_reducible refine below_from_drew ?_) | (with_reducible refine Below.alloc ?_ ?_ _) | (with_reducible refine Below.drew ?_) | (with_reducible refine below_drewN ?_ _) | (with_reducible refine Below.setCell ?_ ?_ _) | (with_reducible refine below_via ?_ (by assumption) ?_) | (with_reducible refine below_ov ?_ ?_ _ _) | go_size)), fun j hj => by
            by_cases e : j = i
            · subst e; rw [HP.out, HQ.out]; exact HEQ.out
            · exact HE.out j (by omega)⟩
          case measure => simp [intOf]; omega
        | false =>
          have hne : decide (l = k) = false := by
            rw [decide_eq_false]
            intro e
            have h3 : (x0, y0, x1, y1) = (z0, t0, z1, t1) := by rw [← HP.out, ← HQ.out, e]
            rw [HQI.out.2 h3] at he
            cases he
          have HNE := Lib.hid hne
          clear hne HQI
          go_wp2_with fail
          refine region_ord [(0, 0), (1, 0), (2, 0), (3, 0), (4, 0), (5, 0), (6, 0), (7, 0), (8, 0)] (by kernel_rfl) (by kernel_rfl) (fun _ _ d _ _ h => by cases d <;> exact h) (fun hS => ?_)
          (refine wpG_read (v := ?_) rfl (.inl ⟨by rfl, fun wx hbx => ?_⟩) ?_; rotate_left; (focus (obtain ⟨cx0, fx0, zx0⟩ := bk hbx (b) (by first | omega | (simp; done) | (simp; omega)); obtain ⟨cx1, fx1, zx1⟩ := bk hbx (b') (by first | omega | (simp; done) | (simp; omega)); go_simp; (try go_bits); (try with_reducible rfl))); try simp only [Act.put, List.setIfInBounds_toArray, List.set_cons_zero, List.set_cons_succ])
          (refine wpG_read (v := ?_) rfl (.inl ⟨by rfl, fun wx hbx => ?_⟩) ?_; rotate_left; (focus (obtain ⟨cx0, fx0, zx0⟩ := bk hbx (b) (by first | omega | (simp; done) | (simp; omega)); obtain ⟨cx1, fx1, zx1⟩ := bk hbx (b') (by first | omega | (simp; done) | (simp; omega)); go_simp; (try go_bits); (try with_reducible rfl))); try simp only [Act.put, List.setIfInBounds_toArray, List.set_cons_zero, List.set_cons_succ])
          (refine wpG_read (v := ?_) rfl (.inl ⟨by rfl, fun wx hbx => ?_⟩) ?_; rotate_left; (focus (obtain ⟨cx0, fx0, zx0⟩ := bk hbx (b) (by first | omega | (simp; done) | (simp; omega)); obtain ⟨cx1, fx1, zx1⟩ := bk hbx (b') (by first | omega | (simp; done) | (simp; omega)); go_simp; (try go_bits); (try with_reducible rfl))); try simp only [Act.put, List.setIfInBounds_toArray, List.set_cons_zero, List.set_cons_succ])
          (refine wpG_read (v := ?_) rfl (.inl ⟨by rfl, fun wx hbx => ?_⟩) ?_; rotate_left; (focus (obtain ⟨cx0, fx0, zx0⟩ := bk hbx (b) (by first | omega | (simp; done) | (simp; omega)); obtain ⟨cx1, fx1, zx1⟩ := bk hbx (b') (by first | omega | (simp; done) | (simp; omega)); go_simp; (try go_bits); (try with_reducible rfl))); try simp only [Act.put, List.setIfInBounds_toArray, List.set_cons_zero, List.set_cons_succ])
          (refine wpG_read (v := ?_) rfl (.inl ⟨by rfl, fun wx hbx => ?_⟩) ?_; rotate_left; (focus (obtain ⟨cx0, fx0, zx0⟩ := bk hbx (b) (by first | omega | (simp; done) | (simp; omega)); obtain ⟨cx1, fx1, zx1⟩ := bk hbx (b') (by first | omega | (simp; done) | (simp; omega)); go_simp; (try go_bits); (try with_reducible rfl))); try simp only [Act.put, List.setIfInBounds_toArray, List.set_cons_zero, List.set_cons_succ])
          (refine wpG_read (v := ?_) rfl (.inl ⟨by rfl, fun wx hbx => ?_⟩) ?_; rotate_left; (focus (obtain ⟨cx0, fx0, zx0⟩ := bk hbx (b) (by first | omega | (simp; done) | (simp; omega)); obtain ⟨cx1, fx1, zx1⟩ := bk hbx (b') (by first | omega | (simp; done) | (simp; omega)); go_simp; (try go_bits); (try with_reducible rfl))); try simp only [Act.put, List.setIfInBounds_toArray, List.set_cons_zero, List.set_cons_succ])
          (refine wpG_read (v := ?_) rfl (.inl ⟨by rfl, fun wx hbx => ?_⟩) ?_; rotate_left; (focus (obtain ⟨cx0, fx0, zx0⟩ := bk hbx (b) (by first | omega | (simp; done) | (simp; omega)); obtain ⟨cx1, fx1, zx1⟩ := bk hbx (b') (by first | omega | (simp; done) | (simp; omega)); go_simp; (try go_bits); (try with_reducible rfl))); try simp only [Act.put, List.setIfInBounds_toArray, List.set_cons_zero, List.set_cons_succ])
          (refine wpG_read (v := ?_) rfl (.inl ⟨by rfl, fun wx hbx => ?_⟩) ?_; rotate_left; (focus (obtain ⟨cx0, fx0, zx0⟩ := bk hbx (b) (by first | omega | (simp; done) | (simp; omega)); obtain ⟨cx1, fx1, zx1⟩ := bk hbx (b') (by first | omega | (simp; done) | (simp; omega)); go_simp; (try go_bits); (try with_reducible rfl))); try simp only [Act.put, List.setIfInBounds_toArray, List.set_cons_zero, List.set_cons_succ])
          (refine wpG_read (v := ?_) rfl (.inl ⟨by rfl, fun wx hbx => ?_⟩) ?_; rotate_left; (focus (obtain ⟨cx0, fx0, zx0⟩ := bk hbx (b) (by first | omega | (simp; done) | (simp; omega)); obtain ⟨cx1, fx1, zx1⟩ := bk hbx (b') (by first | omega | (simp; done) | (simp; omega)); go_simp; (try go_bits); (try with_reducible rfl))); try simp only [Act.put, List.setIfInBounds_toArray, List.set_cons_zero, List.set_cons_succ])
          refine wpG_nil ?_
          go_wp2_with fail
          go_ret
          exact ⟨by rw [HNE.out]; rfl, by have q := HBW.out; (repeat' (first | (with_reducible exact Below.refl _ _) | (with_reducible assumption) | (with_reducible refine below_from_drew ?_) | (with_reducible refine Below.alloc ?_ ?_ _) | (with_reducible refine Below.drew ?_) | (with_reducible refine below_drewN ?_ _) | (with_reducible refine Below.setCell ?_ ?_ _) | (with_reducible refine below_via ?_ (by assumption) ?_) | (with_reducible refine below_ov ?_ ?_ _ _) | go_size))⟩
      · obtain rfl : i = n := by omega
        have c2 : decide ((i : Int) < i) = false := by simp
        have he : decide (l = k) = true := by rw [decide_eq_true]; exact getD_eqQ HL.out HK.out HE.out
        have HEE := Lib.hid he
        clear he
        go_wp2_with fail
        go_ret
        exact ⟨by rw [HEE.out]; rfl, HBW.out⟩
  · have hnm' : ¬ (n : Int) = (m : Int) := by omega
    have he : decide (l = k) = false := by
      rw [decide_eq_false]; intro e
      exact hnm (by rw [← HL.out, ← HK.out, e])
    have HEE := Lib.hid he
    clear he
    go_enter Try.func61, Try.ntmps61
    go_wp2_with fail
    go_ret
    exact ⟨by rw [HEE.out]; rfl, Below.refl _ _⟩
set_option maxRecDepth 100000 in
set_option maxHeartbeats 4000000 in
theorem rsame_any (a b : Option Addr) (n c m d : Nat) (A B : List BandZ) (w : World) (hA : RegOk A) (hB : RegOk B) (hn : A.length = n) (hm : B.length = m) (h1 : BandsAt w a A) (h2 : BandsAt w b B) (k1 : (rectsZ A).length ≤ 1000000000000) (k2 : (rectsZ B).length ≤ 1000000000000) :
    Calls Try.prog 30 #[.agg #[.slice a n c], .agg #[.slice b m d]] w fun e w' => e = .returned (.bool (decide (rectsZ A = rectsZ B))) ∧ Below w.heap.size w w' := by
  have H1 := Lib.hid (fun u (hb : Below w.heap.size w u) => rects_any a n c A u hA hn (h1.below hb) _ rfl k1)
  have H2 := Lib.hid (fun u (hb : Below w.heap.size w u) => rects_any b m d B u hB hm (h2.below hb) _ rfl k2)
  generalize rectsZ A = P at *
  generalize rectsZ B = Q at *
  have H3 := Lib.hid (fun x1 c1 x2 c2 u (i1 : RectsAt u x1 P) (i2 : RectsAt u x2 Q) => equalR_any x1 x2 _ c1 _ c2 P Q u rfl rfl k1 k2 i1 i2)
  clear hA hB hn hm h1 h2 k1 k2
  go_enter Try.func30, Try.ntmps30
  go_wp2_with fail
  refine region_ord [(0, 0), (2, 0), (1, 1), (3, 1), (4, 1), (5, 0)] (by kernel_rfl) (by kernel_rfl) (fun _ _ d _ _ h => by cases d <;> exact h) (fun hS => ?_)
  (refine wpG_read (v := ?_) rfl (.inl ⟨by rfl, fun wx hbx => ?_⟩) ?_; rotate_left; (focus (obtain ⟨cx0, fx0, zx0⟩ := bk hbx (w.heap.size) (by first | omega | (simp; done) | (simp; omega)); obtain ⟨cx1, fx1, zx1⟩ := bk hbx (w.heap.size + 1) (by first | omega | (simp; done) | (simp; omega)); go_simp; (try go_bits); (try with_reducible rfl))); try simp only [Act.put, List.setIfInBounds_toArray, List.set_cons_zero, List.set_cons_succ])
  (refine wpG_read (v := ?_) rfl (.inl ⟨by rfl, fun wx hbx => ?_⟩) ?_; rotate_left; (focus (obtain ⟨cx0, fx0, zx0⟩ := bk hbx (w.heap.size) (by first | omega | (simp; done) | (simp; omega)); obtain ⟨cx1, fx1, zx1⟩ := bk hbx (w.heap.size + 1) (by first | omega | (simp; done) | (simp; omega)); go_simp; (try go_bits); (try with_reducible rfl))); try simp only [Act.put, List.setIfInBounds_toArray, List.set_cons_zero, List.set_cons_succ])
  (refine wpG_make rfl (fun K hK => ?_); go_simp; (first | (go_at_call 26; (with_reducible refine (H1.out _ (by (repeat' (first | (with_reducible exact Below.refl _ _) | (with_reducible assumption) | (with_reducible refine below_from_drew ?_) | (with_reducible refine Below.alloc ?_ ?_ _) | (with_reducible refine Below.drew ?_) | (with_reducible refine below_drewN ?_ _) | (with_reducible refine Below.setCell ?_ ?_ _) | (with_reducible refine below_via ?_ (by assumption) ?_) | (with_reducible refine below_ov ?_ ?_ _ _) | go_size)))).mono ?_); rintro e w1 ⟨x1, c1, rfl, i1, hb⟩; refine Exists.elim (after2 (w := w) (b0 := w.heap.size) (cs0 := ?_) (T0 := ?_) (b1 := w.heap.size + 1) (cs1 := ?_) (T1 := ?_) hb ?_ ?_ ?_) ?_; rotate_left 4; (focus ((repeat' (first | (with_reducible exact Below.refl _ _) | (with_reducible assumption) | (with_reducible refine below_from_drew ?_) | (with_reducible refine Below.alloc ?_ ?_ _) | (with_reducible refine Below.drew ?_) | (with_reducible refine below_drewN ?_ _) | (with_reducible refine Below.setCell ?_ ?_ _) | (with_reducible refine below_via ?_ (by assumption) ?_) | (with_reducible refine below_ov ?_ ?_ _ _) | go_size)); done)); (focus ((repeat' (first | (with_reducible refine has_drew ?_) | (with_reducible refine has_drewN ?_) | (with_reducible refine has_new ?_; (first | (with_reducible rfl) | omega | (simp; done) | (simp; omega))) | (with_reducible refine has_ov_same ?_; (first | (with_reducible rfl) | omega | (simp; done) | (simp; omega))) | (with_reducible refine has_alloc ?_) | (with_reducible refine has_ov_other ?_ ?_; (focus (first | (with_reducible rfl) | omega | (simp; done) | (simp; omega)))) | (with_reducible assumption) | (with_reducible exact has_below hB (by assumption)))); done)); (focus ((repeat' (first | (with_reducible refine has_drew ?_) | (with_reducible refine has_drewN ?_) | (with_reducible refine has_new ?_; (first | (with_reducible rfl) | omega | (simp; done) | (simp; omega))) | (with_reducible refine has_ov_same ?_; (first | (with_reducible rfl) | omega | (simp; done) | (simp; omega))) | (with_reducible refine has_alloc ?_) | (with_reducible refine has_ov_other ?_ ?_; (focus (first | (with_reducible rfl) | omega | (simp; done) | (simp; omega)))) | (with_reducible assumption) | (with_reducible exact has_below hB (by assumption)))); done)); rintro u1 ⟨rfl, hB, hz, z0, o0, z1, o1⟩; (try simp only [World.size_alloc, World.size_setCell, World.size_drew, ov_size] at hz)) | (go_at_call 26; (with_reducible refine (H2.out _ (by (repeat' (first | (with_reducible exact Below.refl _ _) | (with_reducible assumption) | (with_reducible refine below_from_drew ?_) | (with_reducible refine Below.alloc ?_ ?_ _) | (with_reducible refine Below.drew ?_) | (with_reducible refine below_drewN ?_ _) | (with_reducible refine Below.setCell ?_ ?_ _) | (with_reducible refine below_via ?_ (by assumption) ?_) | (with_reducible refine below_ov ?_ ?_ _ _) | go_size)))).mono ?_); rintro e w1 ⟨x2, c2, rfl, i2, hb⟩; replace i1 := i1.below hb; refine Exists.elim (after2 (w := w) (b0 := w.heap.size) (cs0 := ?_) (T0 := ?_) (b1 := w.heap.size + 1) (cs1 := ?_) (T1 := ?_) hb ?_ ?_ ?_) ?_; rotate_left 4; (focus ((repeat' (first | (with_reducible exact Below.refl _ _) | (with_reducible assumption) | (with_reducible refine below_from_drew ?_) | (with_reducible refine Below.alloc ?_ ?_ _) | (with_reducible refine Below.drew ?_) | (with_reducible refine below_drewN ?_ _) | (with_reducible refine Below.setCell ?_ ?_ _) | (with_reducible refine below_via ?_ (by assumption) ?_) | (with_reducible refine below_ov ?_ ?_ _ _) | go_size)); done)); (focus ((repeat' (first | (with_reducible refine has_drew ?_) | (with_reducible refine has_drewN ?_) | (with_reducible refine has_new ?_; (first | (with_reducible rfl) | omega | (simp; done) | (simp; omega))) | (with_reducible refine has_ov_same ?_; (first | (with_reducible rfl) | omega | (simp; done) | (simp; omega))) | (with_reducible refine has_alloc ?_) | (with_reducible refine has_ov_other ?_ ?_; (focus (first | (with_reducible rfl) | omega | (simp; done) | (simp; omega)))) | (with_reducible assumption) | (with_reducible exact has_below hB (by assumption)))); done)); (focus ((repeat' (first | (with_reducible refine has_drew ?_) | (with_reducible refine has_drewN ?_) | (with_reducible refine has_new ?_; (first | (with_reducible rfl) | omega | (simp; done) | (simp; omega))) | (with_reducible refine has_ov_same ?_; (first | (with_reducible rfl) | omega | (simp; done) | (simp; omega))) | (with_reducible refine has_alloc ?_) | (with_reducible refine has_ov_other ?_ ?_; (focus (first | (with_reducible rfl) | omega | (simp; done) | (simp; omega)))) | (with_reducible assumption) | (with_reducible exact has_below hB (by assumption)))); done)); rintro u2 ⟨rfl, hB, hz, z0, o0, z1, o1⟩; (try simp only [World.size_alloc, World.size_setCell, World.size_drew, ov_size] at hz))); (try simp only []); refine hK _ _ ?_ (fun hS2 => ?_); (focus ((repeat' (first | (with_reducible exact Below.refl _ _) | (with_reducible assumption) | (with_reducible refine below_from_drew ?_) | (with_reducible refine Below.alloc ?_ ?_ _) | (with_reducible refine Below.drew ?_) | (with_reducible refine below_drewN ?_ _) | (with_reducible refine Below.setCell ?_ ?_ _) | (with_reducible refine below_via ?_ (by assumption) ?_) | (with_reducible refine below_ov ?_ ?_ _ _) | go_size)); done)); clear hK K hS; have hS := hS2; clear hS2; (try clear hb); try simp only [Act.put, List.setIfInBounds_toArray, List.set_cons_zero, List.set_cons_succ])
  (refine wpG_make rfl (fun K hK => ?_); go_simp; (first | (go_at_call 26; (with_reducible refine (H1.out _ (by (repeat' (first | (with_reducible exact Below.refl _ _) | (with_reducible assumption) | (with_reducible refine below_from_drew ?_) | (with_reducible refine Below.alloc ?_ ?_ _) | (with_reducible refine Below.drew ?_) | (with_reducible refine below_drewN ?_ _) | (with_reducible refine Below.setCell ?_ ?_ _) | (with_reducible refine below_via ?_ (by assumption) ?_) | (with_reducible refine below_ov ?_ ?_ _ _) | go_size)))).mono ?_); rintro e w1 ⟨x1, c1, rfl, i1, hb⟩; refine Exists.elim (after2 (w := w) (b0 := w.heap.size) (cs0 := ?_) (T0 := ?_) (b1 := w.heap.size + 1) (cs1 := ?_) (T1 := ?_) hb ?_ ?_ ?_) ?_; rotate_left 4; (focus ((repeat' (first | (with_reducible exact Below.refl _ _) | (with_reducible assumption) | (with_reducible refine below_from_drew ?_) | (with_reducible refine Below.alloc ?_ ?_ _) | (with_reducible refine Below.drew ?_) | (with_reducible refine below_drewN ?_ _) | (with_reducible refine Below.setCell ?_ ?_ _) | (with_reducible refine below_via ?_ (by assumption) ?_) | (with_reducible refine below_ov ?_ ?_ _ _) | go_size)); done)); (focus ((repeat' (first | (with_reducible refine has_drew ?_) | (with_reducible refine has_drewN ?_) | (with_reducible refine has_new ?_; (first | (with_reducible rfl) | omega | (simp; done) | (simp; omega))) | (with_reducible refine has_ov_same ?_; (first | (with_reducible rfl) | omega | (simp; done) | (simp; omega))) | (with_reducible refine has_alloc ?_) | (with_reducible refine has_ov_other ?_ ?_; (focus (first | (with_reducible rfl) | omega | (simp; done) | (simp; omega)))) | (with_reducible assumption) | (with_reducible exact has_below hB (by assumption)))); done)); (focus ((repeat' (first | (with_reducible refine has_drew ?_) | (with_reducible refine has_drewN ?_) | (with_reducible refine has_new ?_; (first | (with_reducible rfl) | omega | (simp; done) | (simp; omega))) | (with_reducible refine has_ov_same ?_; (first | (with_reducible rfl) | omega | (simp; done) | (simp; omega))) | (with_reducible refine has_alloc ?_) | (with_reducible refine has_ov_other ?_ ?_; (focus (first | (with_reducible rfl) | omega | (simp; done) | (simp; omega)))) | (with_reducible assumption) | (with_reducible exact has_below hB (by assumption)))); done)); rintro u1 ⟨rfl, hB, hz, z0, o0, z1, o1⟩; (try simp only [World.size_alloc, World.size_setCell, World.size_drew, ov_size] at hz)) | (go_at_call 26; (with_reducible refine (H2.out _ (by (repeat' (first | (with_reducible exact Below.refl _ _) | (with_reducible assumption) | (with_reducible refine below_from_drew ?_) | (with_reducible refine Below.alloc ?_ ?_ _) | (with_reducible refine Below.drew ?_) | (with_reducible refine below_drewN ?_ _) | (with_reducible refine Below.setCell ?_ ?_ _) | (with_reducible refine below_via ?_ (by assumption) ?_) | (with_reducible refine below_ov ?_ ?_ _ _) | go_size)))).mono ?_); rintro e w1 ⟨x2, c2, rfl, i2, hb⟩; replace i1 := i1.below hb; refine Exists.elim (after2 (w := w) (b0 := w.heap.size) (cs0 := ?_) (T0 := ?_) (b1 := w.heap.size + 1) (cs1 := ?_) (T1 := ?_) hb ?_ ?_ ?_) ?_; rotate_left 4; (focus ((repeat' (first | (with_reducible exact Below.refl _ _) | (with_reducible assumption) | (with_reducible refine below_from_drew ?_) | (with_reducible refine Below.alloc ?_ ?_ _) | (with_reducible refine Below.drew ?_) | (with_reducible refine below_drewN ?_ _) | (with_reducible refine Below.setCell ?_ ?_ _) | (with_reducible refine below_via ?_ (by assumption) ?_) | (with_reducible refine below_ov ?_ ?_ _ _) | go_size)); done)); (focus ((repeat' (first | (with_reducible refine has_drew ?_) | (with_reducible refine has_drewN ?_) | (with_reducible refine has_new ?_; (first | (with_reducible rfl) | omega | (simp; done) | (simp; omega))) | (with_reducible refine has_ov_same ?_; (first | (with_reducible rfl) | omega | (simp; done) | (simp; omega))) | (with_reducible refine has_alloc ?_) | (with_reducible refine has_ov_other ?_ ?_; (focus (first | (with_reducible rfl) | omega | (simp; done) | (simp; omega)))) | (with_reducible assumption) | (with_reducible exact has_below hB (by assumption)))); done)); (focus ((repeat' (first | (with_reducible refine has_drew ?_) | (with_reducible refine has_drewN ?_) | (with_reducible refine has_new ?_; (first | (with_reducible rfl) | omega | (simp; done) | (simp; omega))) | (with_reducible refine has_ov_same ?_; (first | (with_reducible rfl) | omega | (simp; done) | (simp; omega))) | (with_reducible refine has_alloc ?_) | (with_reducible refine has_ov_other ?_ ?_; (focus (first | (with_reducible rfl) | omega | (simp; done) | (simp; omega)))) | (with_reducible assumption) | (with_reducible exact has_below hB (by assumption)))); done)); rintro u2 ⟨rfl, hB, hz, z0, o0, z1, o1⟩; (try simp only [World.size_alloc, World.size_setCell, World.size_drew, ov_size] at hz))); (try simp only []); refine hK _ _ ?_ (fun hS2 => ?_); (focus ((repeat' (first | (with_reducible exact Below.refl _ _) | (with_reducible assumption) | (with_reducible refine below_from_drew ?_) | (with_reducible refine Below.alloc ?_ ?_ _) | (with_reducible refine Below.drew ?_) | (with_reducible refine below_drewN ?_ _) | (with_reducible refine Below.setCell ?_ ?_ _) | (with_reducible refine below_via ?_ (by assumption) ?_) | (with_reducible refine below_ov ?_ ?_ _ _) | go_size)); done)); clear hK K hS; have hS := hS2; clear hS2; (try clear hb); try simp only [Act.put, List.setIfInBounds_toArray, List.set_cons_zero, List.set_cons_succ])
  (refine wpG_make rfl (fun K hK => ?_); go_simp; (go_at_call 61; (with_reducible refine (H3.out _ _ _ _ _ i1 i2).mono ?_); rintro e w1 ⟨rfl, hb⟩; refine Exists.elim (after2 (w := w) (b0 := w.heap.size) (cs0 := ?_) (T0 := ?_) (b1 := w.heap.size + 1) (cs1 := ?_) (T1 := ?_) hb ?_ ?_ ?_) ?_; rotate_left 4; (focus ((repeat' (first | (with_reducible exact Below.refl _ _) | (with_reducible assumption) | (with_reducible refine below_from_drew ?_) | (with_reducible refine Below.alloc ?_ ?_ _) | (with_reducible refine Below.drew ?_) | (with_reducible refine below_drewN ?_ _) | (with_reducible refine Below.setCell ?_ ?_ _) | (with_reducible refine below_via ?_ (by assumption) ?_) | (with_reducible refine below_ov ?_ ?_ _ _) | go_size)); done)); (focus ((repeat' (first | (with_reducible refine has_drew ?_) | (with_reducible refine has_drewN ?_) | (with_reducible refine has_new ?_; (first | (with_reducible rfl) | omega | (simp; done) | (simp; omega))) | (with_reducible refine has_ov_same ?_; (first | (with_reducible rfl) | omega | (simp; done) | (simp; omega))) | (with_reducible refine has_alloc ?_) | (with_reducible refine has_ov_other ?_ ?_; (focus (first | (with_reducible rfl) | omega | (simp; done) | (simp; omega)))) | (with_reducible assumption) | (with_reducible exact has_below hB (by assumption)))); done)); (focus ((repeat' (first | (with_reducible refine has_drew ?_) | (with_reducible refine has_drewN ?_) | (with_reducible refine has_new ?_; (first | (with_reducible rfl) | omega | (simp; done) | (simp; omega))) | (with_reducible refine has_ov_same ?_; (first | (with_reducible rfl) | omega | (simp; done) | (simp; omega))) | (with_reducible refine has_alloc ?_) | (with_reducible refine has_ov_other ?_ ?_; (focus (first | (with_reducible rfl) | omega | (simp; done) | (simp; omega)))) | (with_reducible assumption) | (with_reducible exact has_below hB (by assumption)))); done)); rintro u3 ⟨rfl, hB, hz, z0, o0, z1, o1⟩; (try simp only [World.size_alloc, World.size_setCell, World.size_drew, ov_size] at hz)); (try simp only []); refine hK _ _ ?_ (fun hS2 => ?_); (focus ((repeat' (first | (with_reducible exact Below.refl _ _) | (with_reducible assumption) | (with_reducible refine below_from_drew ?_) | (with_reducible refine Below.alloc ?_ ?_ _) | (with_reducible refine Below.drew ?_) | (with_reducible refine below_drewN ?_ _) | (with_reducible refine Below.setCell ?_ ?_ _) | (with_reducible refine below_via ?_ (by assumption) ?_) | (with_reducible refine below_ov ?_ ?_ _ _) | go_size)); done)); clear hK K hS; have hS := hS2; clear hS2; (try clear hb); try simp only [Act.put, List.setIfInBounds_toArray, List.set_cons_zero, List.set_cons_succ])
  (refine wpG_read (v := ?_) rfl (.inl ⟨by rfl, fun wx hbx => ?_⟩) ?_; rotate_left; (focus (obtain ⟨cx0, fx0, zx0⟩ := bk hbx (w.heap.size) (by first | omega | (simp; done) | (simp; omega)); obtain ⟨cx1, fx1, zx1⟩ := bk hbx (w.heap.size + 1) (by first | omega | (simp; done) | (simp; omega)); go_simp; (try go_bits); (try with_reducible rfl))); try simp only [Act.put, List.setIfInBounds_toArray, List.set_cons_zero, List.set_cons_succ])
  refine wpG_nil ?_
  clear i1 i2
  go_wp2_with fail
  go_ret
  exact ⟨rfl, by (repeat' (first | (with_reducible exact Below.refl _ _) | (with_reducible assumption) | (with_reducible refine below_from_drew ?_) | (with_reducible refine Below.alloc ?_ ?_ _) | (with_reducible refine Below.drew ?_) | (with_reducible refine below_drewN ?_ _) | (with_reducible refine Below.setCell ?_ ?_ _) | (with_reducible refine below_via ?_ (by assumption) ?_) | (with_reducible refine below_ov ?_ ?_ _ _) | go_size))⟩
end Go.Proofs.Ytkpamofamcndnaa
