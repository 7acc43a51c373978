/- region.combine by contract. -/
import Derived.Test.YtkpamofamcndnaaRegI
import Derived.Test.YtkpamofamcndnaaRegV
namespace Go.Proofs.Ytkpamofamcndnaa
open Go.RowKit Go.Shelf
set_option linter.unusedSimpArgs false
set_option linter.unusedVariables false
-- below_from_drew
attribute [local go_sem] ov_cell_same ov_cell_other ov_frozen_same ov_frozen_other ov_size ov_setCell_same ov_setCell_other cell_alloc_old frozen_alloc_old setCell_alloc_old old_alloc old_ov old_drew old_drewN old_setCell
attribute [local go_sem ↓] run_max2 run_min2

theorem add_any (p base n ca : Nat) (al : Option Addr) (M : List BandM) (y0 y1 : Int) (ea : Option Addr) (ec : Nat) (es : List Int) (w : World) (hn : M.length = n) (hnm : n ≤ 100000000000) (hp : Has w p #[.slice al n ca] 26) (hpb : p < base) (hbs : base ≤ w.heap.size)
    (hown : w.ownsRow base 115 3 (.slice al n ca) n (bandCells M)) (hM : ∀ b ∈ M, EdgT w b.ea b.es ∧ b.es.length ≤ b.ec ∧ b.es.length ≤ 100000000000) (hxm : es.length ≤ 100000000000) (hxt : EdgT w ea es) (hxc : es.length ≤ ec) :
    Calls Try.prog 77 #[.pointer (some ⟨p, 0, none⟩), .agg #[.int .i64 y0, .int .i64 y1, .slice ea es.length ec]] w fun e w' => e = .returned (.tuple #[]) ∧ AddedR w p base M ⟨y0, y1, ea, ec, es⟩ w' := by
  by_cases h : es = []
  · exact add_none p base n ca al M ⟨y0, y1, ea, ec, es⟩ w hn hnm hp hpb hbs hown (fun b hb => ⟨(hM b hb).1, (hM b hb).2.1⟩) h
  · obtain ⟨k, hk⟩ := band_pos h
    rw [hk]
    exact add_some p base n ca al M y0 y1 ea ec k es w hn hnm hp hpb hbs hown hM hk (by omega) hxt hxc
/-- Where combine's loop stands. -/
def CmbI (w : World) (q : Nat) (F : Int → List Int) (P : List Int) (iv : Value) (wr : World) : Prop :=
  ∃ (j : Nat) (M : List BandM) (al : Option Addr) (ca : Nat), iv = .int .i64 ((j : Int) + 1) ∧ (j = 0 ∨ j < P.length) ∧ M.length ≤ j ∧ combB F [] P = combB F (M.map bmZ) (P.drop j) ∧
    Has wr q #[.slice al M.length ca] 26 ∧ wr.ownsRow w.heap.size 115 3 (.slice al M.length ca) M.length (bandCells M) ∧ (∀ b ∈ M, EdgT wr b.ea b.es ∧ b.es.length ≤ b.ec ∧ b.es.length ≤ 100000000000) ∧ But q w.heap.size w wr
theorem but_has {b n : Nat} {w w' : World} {c : Array Value} {T : TypeId} (h : But b w.heap.size w w') (h0 : Has w n c T) (hn : n ≠ b) : Has w' n c T := h.has h0 hn
theorem bandsAt_owned {w : World} {base n ca : Nat} {al : Option Addr} {M : List BandM} (hn : M.length = n) (h : w.ownsRow base 115 3 (.slice al n ca) n (bandCells M)) (hM : ∀ b ∈ M, EdgT w b.ea b.es ∧ b.es.length ≤ b.ec) : BandsAt w al (M.map bmZ) := fun h0 => by
  rw [List.length_map] at h0
  obtain ⟨al', ca', he, _, _, hcells⟩ := row_reads h
  cases he
  obtain ⟨g, rfl, hg0, hg1, hg2⟩ := hcells (by omega)
  refine ⟨g, 0, rfl, hg1, fun i hi => ?_⟩
  rw [List.length_map] at hi
  have e : (M.map bmZ).getD i b0Z = bmZ M[i] := by simp [List.getD_eq_getElem?_getD, hi]
  rw [e]
  have hs : M = M.take i ++ M[i] :: M.drop (i + 1) := by rw [← List.drop_eq_getElem_cons hi, List.take_append_drop]
  have hl : (M.take i).length = i := by rw [List.length_take]; omega
  have hget : ∀ k, k < 3 → (bandCells M)[i * 3 + k]? = (bandV M[i])[k]? := fun k hk => by
    have q : bandCells M = bandCells (M.take i ++ [M[i]]) ++ bandCells (M.drop (i + 1)) := by
      rw [bandCells_snoc]
      exact (congrArg (List.flatMap bandV) hs).trans (by rw [List.flatMap_append, List.flatMap_cons, List.append_assoc]; rfl)
    have hlen : (bandCells (M.take i ++ [M[i]])).length = (i + 1) * 3 := by rw [bandCells_length, List.length_append, hl]; rfl
    rw [q, List.getElem?_append_left (by rw [hlen]; omega)]
    have := bandCells_get (M.take i) M[i] k hk
    rw [hl] at this
    exact this
  have k0 := hg2 _ _ (hget 0 (by omega)); have k1 := hg2 _ _ (hget 1 (by omega)); have k2 := hg2 _ _ (hget 2 (by omega))
  obtain ⟨m1, m2⟩ := hM M[i] (List.getElem_mem hi)
  refine ⟨by rw [Nat.zero_add]; exact k0, by rw [Nat.zero_add]; exact k1, M[i].ea, M[i].ec, by rw [Nat.zero_add]; exact k2, m2, m1.ints⟩
theorem addB_mem {out : List BandZ} {x b : BandZ} (h : b ∈ addB out x) : b.es = x.es ∨ ∃ b' ∈ out, b.es = b'.es := by
  unfold addB at h
  split at h
  · exact .inr ⟨b, h, rfl⟩
  · split at h
    · rcases List.mem_append.1 h with q | q
      · exact .inr ⟨b, List.dropLast_subset _ q, rfl⟩
      · simp at q; subst q; exact .inl rfl
    · rcases List.mem_append.1 h with q | q
      · exact .inr ⟨b, q, rfl⟩
      · simp at q; subst q; exact .inl rfl
theorem combB_short (F : Int → List Int) (out : List BandZ) {P : List Int} (h : P.length ≤ 1) : combB F out P = out := by
  cases P with
  | nil => rfl
  | cons a P => cases P with
    | nil => rfl
    | cons b P => simp at h
theorem runsG_length (K : Int → Bool) : ∀ (P : List Int) (ev : Bool), (runsG K P ev).length ≤ P.length
  | [], ev => Nat.le_refl _
  | x :: P, ev => by
    have h1 := runsG_length K P (!ev)
    have h2 := runsG_length K P ev
    show (if _ then _ else _ : List Int).length ≤ _
    split
    · rw [List.length_cons, List.length_cons]; omega
    · rw [List.length_cons]; omega
theorem rowZ_length {keep : Bool → Bool → Bool} {A B : List BandZ} (hA : RegOk A) (hB : RegOk B) (y : Int) : (rowZ keep A B y).length ≤ 100000000000 := by
  have h1 := runsG_length (fun p => keep (inR (rowB A y) p) (inR (rowB B y) p)) (sortD (rowB A y ++ rowB B y)) true
  have h2 := Lib.compact_length_le (msort (rowB A y ++ rowB B y))
  rw [compact_sort, msort_length, List.length_append] at h2
  have := hA.rows y; have := hB.rows y
  unfold rowZ runsZ
  omega
set_option maxRecDepth 100000 in
set_option maxHeartbeats 8000000 in
theorem combine_any (kf : FuncId) (keep : Bool → Bool → Bool) (hk : Keeps kf keep) (a b : Option Addr) (n c m d : Nat) (A B : List BandZ) (w : World) (hA : RegOk A) (hB : RegOk B) (hn : A.length = n) (hm : B.length = m) (h1 : BandsAt w a A) (h2 : BandsAt w b B) (R : List BandZ) (hR : combZ keep A B = R) :
    Calls Try.prog 49 #[.agg #[.slice a n c], .agg #[.slice b m d], .func (Fn.func kf) #[] #[]] w fun e w' => ∃ al ca, e = .returned (.agg #[.slice al R.length ca]) ∧ BandsAt w' al R ∧ Below w.heap.size w w' := by
  have hnl := hA.len; have hml := hB.len
  rw [hn] at hnl
  rw [hm] at hml
  have hhe := heights_any a b n c m d A B
  have HHE := Lib.hid (fun u (hb : Below w.heap.size w u) => hhe u hn hm (by omega) (by omega) (h1.below hb) (h2.below hb) _ rfl)
  have HRA := Lib.hid (fun y u (hb : Below w.heap.size w u) => row_any a n c y A u hn (by omega) (h1.below hb))
  have HRB := Lib.hid (fun y u (hb : Below w.heap.size w u) => row_any b m d y B u hm (by omega) (h2.below hb))
  have HRU := Lib.hid (fun y a1 c1 a2 c2 u (i1 : IntsAt u a1 (rowB A y)) (i2 : IntsAt u a2 (rowB B y)) => runs_any kf keep hk a1 a2 _ c1 _ c2 (rowB A y) (rowB B y) (-1073741825) u (rowB_up hA.ok y) (rowB_up hB.ok y) rfl rfl (by have := hA.rows y; omega) (by have := hB.rows y; omega) i1 i2 (rowZ keep A B y) rfl)
  have HRL := Lib.hid (fun y => rowZ_length (keep := keep) hA hB y)
  have HR := Lib.hid hR; have HAB := Lib.hid (show (A ++ B).length ≤ 4294967296 by rw [List.length_append]; omega)
  clear hA hB hn hm h1 h2 hR hhe hk
  go_enter Try.func49, Try.ntmps49
  go_wp2_with fail
  refine (HHE.out _ (by (repeat' (first | (with_reducible exact Below.refl _ _) | (with_reducible assumption) | (with_reducible refine below_from_drew ?_) | (with_reducible refine Below.alloc ?_ ?_ _) | (with_reducible refine Below.drew ?_) | (with_reducible refine below_drewN ?_ _) | (with_reducible refine Below.setCell ?_ ?_ _) | (with_reducible refine below_via ?_ (by assumption) ?_) | (with_reducible refine below_ov ?_ ?_ _ _) | go_size)))).mono ?_
  rintro e w1 ⟨ap, cp, rfl, hI, hb⟩
  have hbw : Below w.heap.size w w1 := by (repeat' (first | (with_reducible exact Below.refl _ _) | (with_reducible assumption) | (with_reducible refine below_from_drew ?_) | (with_reducible refine Below.alloc ?_ ?_ _) | (with_reducible refine Below.drew ?_) | (with_reducible refine below_drewN ?_ _) | (with_reducible refine Below.setCell ?_ ?_ _) | (with_reducible refine below_via ?_ (by assumption) ?_) | (with_reducible refine below_ov ?_ ?_ _ _) | go_size))
  have hz1 := hb.size
  simp only [World.size_alloc] at hz1
  have hH0 := has_below (b := w.heap.size) (cs := #[.slice a n c]) (T := 26) hb (by (repeat' (first | (with_reducible refine has_drew ?_) | (with_reducible refine has_drewN ?_) | (with_reducible refine has_new ?_; (first | (with_reducible rfl) | omega | (simp; done) | (simp; omega))) | (with_reducible refine has_ov_same ?_; (first | (with_reducible rfl) | omega | (simp; done) | (simp; omega))) | (with_reducible refine has_alloc ?_) | (with_reducible refine has_ov_other ?_ ?_; (focus (first | (with_reducible rfl) | omega | (simp; done) | (simp; omega)))) | (with_reducible assumption) | (with_reducible exact has_below hB (by assumption)))))
  have hH1 := has_below (b := w.heap.size + 1) (cs := #[.slice b m d]) (T := 26) hb (by (repeat' (first | (with_reducible refine has_drew ?_) | (with_reducible refine has_drewN ?_) | (with_reducible refine has_new ?_; (first | (with_reducible rfl) | omega | (simp; done) | (simp; omega))) | (with_reducible refine has_ov_same ?_; (first | (with_reducible rfl) | omega | (simp; done) | (simp; omega))) | (with_reducible refine has_alloc ?_) | (with_reducible refine has_ov_other ?_ ?_; (focus (first | (with_reducible rfl) | omega | (simp; done) | (simp; omega)))) | (with_reducible assumption) | (with_reducible exact has_below hB (by assumption)))))
  have hH2 := has_below (b := w.heap.size + 1 + 1) (cs := #[.slice none 0 0]) (T := 26) hb (by (repeat' (first | (with_reducible refine has_drew ?_) | (with_reducible refine has_drewN ?_) | (with_reducible refine has_new ?_; (first | (with_reducible rfl) | omega | (simp; done) | (simp; omega))) | (with_reducible refine has_ov_same ?_; (first | (with_reducible rfl) | omega | (simp; done) | (simp; omega))) | (with_reducible refine has_alloc ?_) | (with_reducible refine has_ov_other ?_ ?_; (focus (first | (with_reducible rfl) | omega | (simp; done) | (simp; omega)))) | (with_reducible assumption) | (with_reducible exact has_below hB (by assumption)))))
  have hH3 := has_below (b := w.heap.size + 1 + 1 + 1) (cs := #[.slice none 0 0]) (T := 26) hb (by (repeat' (first | (with_reducible refine has_drew ?_) | (with_reducible refine has_drewN ?_) | (with_reducible refine has_new ?_; (first | (with_reducible rfl) | omega | (simp; done) | (simp; omega))) | (with_reducible refine has_ov_same ?_; (first | (with_reducible rfl) | omega | (simp; done) | (simp; omega))) | (with_reducible refine has_alloc ?_) | (with_reducible refine has_ov_other ?_ ?_; (focus (first | (with_reducible rfl) | omega | (simp; done) | (simp; omega)))) | (with_reducible assumption) | (with_reducible exact has_below hB (by assumption)))))
  have HI := Lib.hid hI; have HH0 := Lib.hid hH0; have HH1 := Lib.hid hH1; have HH2 := Lib.hid hH2; have HH3 := Lib.hid hH3
  have hPR : combB (rowZ keep A B) [] (sortD (heightsL (A ++ B))) = R := by rw [heightsL_append]; exact HR.out
  have HPR := Lib.hid hPR
  have hPl : (sortD (heightsL (A ++ B))).length ≤ 20000000000 := by
    have q := Lib.compact_length_le (msort (heightsL (A ++ B)))
    rw [compact_sort, msort_length, heightsL_length] at q
    have := HAB.out
    omega
  clear hI hb hH0 hH1 hH2 hH3 hPR
  generalize sortD (heightsL (A ++ B)) = P at *
  obtain ⟨pl, hpl⟩ : ∃ pl, P.length = pl := ⟨_, rfl⟩
  have HPL := Lib.hid hpl
  rw [hpl] at hPl
  rw [hpl]
  clear hpl
  go_wp2_with fail
  go_loopw [9] (fun iv wr => CmbI w1 (w.heap.size + 1 + 1 + 1) (rowZ keep A B) P iv wr) (fun iv _ => pl + 1 - (intOf iv).toNat)
  case atStart => unfold CmbI; exact ⟨0, [], none, 0, rfl, .inl rfl, Nat.le_refl _, rfl, HH3.out, World.ownsRow_nil _ _ _ _, fun b hb => (by cases hb), But.refl _ _ _⟩
  case round =>
    unfold CmbI at hrel
    obtain ⟨j, M, al, ca, rfl, hj, hMl, heq, hp, hown, hM, hbut⟩ := hrel
    rw [HPL.out] at hj
    have hzr := hbut.size
    have hbr : Below w.heap.size w wr := ⟨hbut.os.trans hbw.os, hbut.tape.trans hbw.tape, hbut.output.trans hbw.output, by omega, fun k hk => (hbut.block k (by omega) (by omega)).trans (hbw.block k hk)⟩
    have HP := Lib.hid hp; have HO := Lib.hid hown; have HM := Lib.hid hM; have HBUT := Lib.hid hbut; have HEQ := Lib.hid heq
    have hR0 := hbut.has HH0.out (by omega); have hR1 := hbut.has HH1.out (by omega); have hR2 := hbut.has HH2.out (by omega)
    have HR0 := Lib.hid hR0; have HR1 := Lib.hid hR1; have HR2 := Lib.hid hR2
    clear hp hown hM hbut heq hR0 hR1 hR2
    rcases Nat.lt_or_ge (j + 1) pl with c1 | c1
    · have c2 : (j : Int) + 1 < pl := by omega
      have c3 : (0 : Int) ≤ (j : Int) + 1 := by omega
      have c4 : (j : Int) < pl := by omega
      have c5 : (0 : Int) ≤ (j : Int) := by omega
      obtain ⟨bp, op, rfl, hbp, hcp⟩ := HI.out (by rw [HPL.out]; omega)
      have hbq : bp ≠ w.heap.size + 1 + 1 + 1 := fun e => by
        have q := hcp 0 (by rw [HPL.out]; omega)
        rw [e, HH3.out.cells] at q
        rcases hop : op + 0 with _ | o
        · rw [hop] at q; simp at q
        · rw [hop] at q; simp at q
      have hblk := HBUT.out.block bp hbp hbq
      have g0 : wr.cell? ⟨bp, op + j, none⟩ = some (.int .i64 (P.getD j 0)) := (World.cell?_of_block (a := ⟨bp, op + j, none⟩) hblk).trans (hcp j (by rw [HPL.out]; omega))
      have g1 : wr.cell? ⟨bp, op + (j + 1), none⟩ = some (.int .i64 (P.getD (j + 1) 0)) := (World.cell?_of_block (a := ⟨bp, op + (j + 1), none⟩) hblk).trans (hcp (j + 1) (by rw [HPL.out]; omega))
      have hob : bp < wr.heap.size := Nat.lt_of_lt_of_le hbp HBUT.out.size
      have hd1 := drop_intD (P := P) (i := j) (by rw [HPL.out]; omega)
      have hd2 := drop_intD (P := P) (i := j + 1) (by rw [HPL.out]; omega)
      have hq := HEQ.out
      rw [hd1, hd2, combB, ← hd2] at hq
      generalize P.getD j 0 = y0 at *
      generalize P.getD (j + 1) 0 = y1 at *
      have HQ := Lib.hid hq
      have k0 := HR0.out.cells; have l0 := HR0.out.lt
      have k1 := HR1.out.cells; have l1 := HR1.out.lt
      clear hcp hblk hd1 hd2 hq
      go_wp2_with fail
      refine region_ordD [(0, 0), (1, 0), (2, 0), (3, 0), (4, 0), (5, 0), (6, 0), (7, 0), (8, 0), (9, 0), (10, 0), (11, 0), (12, 0), (13, 0), (14, 0), (16, 0), (17, 0), (18, 0), (19, 0), (20, 0), (21, 0), (23, 0), (15, 1), (22, 1), (24, 1), (25, 0), (26, 2)] (by kernel_rfl) (by kernel_rfl) (fun _ _ d _ _ h => by cases d <;> exact h) (fun hS => ?_)
      (refine wpG_read (v := ?_) rfl (.inl ⟨by rfl, fun wx hbx => ?_⟩) ?_; rotate_left; (focus (obtain ⟨cx0, fx0, zx0⟩ := bk hbx (w.heap.size) (by first | omega | (simp; done) | (simp; omega)); obtain ⟨cx1, fx1, zx1⟩ := bk hbx (w.heap.size + 1) (by first | omega | (simp; done) | (simp; omega)); obtain ⟨cx2, fx2, zx2⟩ := bk hbx (bp) (by first | omega | (simp; done) | (simp; omega)); go_simp; (try go_bits); (try with_reducible rfl))); try simp only [Act.put, List.setIfInBounds_toArray, List.set_cons_zero, List.set_cons_succ])
      (refine wpG_read (v := ?_) rfl (.inl ⟨by rfl, fun wx hbx => ?_⟩) ?_; rotate_left; (focus (obtain ⟨cx0, fx0, zx0⟩ := bk hbx (w.heap.size) (by first | omega | (simp; done) | (simp; omega)); obtain ⟨cx1, fx1, zx1⟩ := bk hbx (w.heap.size + 1) (by first | omega | (simp; done) | (simp; omega)); obtain ⟨cx2, fx2, zx2⟩ := bk hbx (bp) (by first | omega | (simp; done) | (simp; omega)); go_simp; (try go_bits); (try with_reducible rfl))); try simp only [Act.put, List.setIfInBounds_toArray, List.set_cons_zero, List.set_cons_succ])
      (refine wpG_read (v := ?_) rfl (.inl ⟨by rfl, fun wx hbx => ?_⟩) ?_; rotate_left; (focus (obtain ⟨cx0, fx0, zx0⟩ := bk hbx (w.heap.size) (by first | omega | (simp; done) | (simp; omega)); obtain ⟨cx1, fx1, zx1⟩ := bk hbx (w.heap.size + 1) (by first | omega | (simp; done) | (simp; omega)); obtain ⟨cx2, fx2, zx2⟩ := bk hbx (bp) (by first | omega | (simp; done) | (simp; omega)); go_simp; (try go_bits); (try with_reducible rfl))); try simp only [Act.put, List.setIfInBounds_toArray, List.set_cons_zero, List.set_cons_succ])
      (refine wpG_read (v := ?_) rfl (.inl ⟨by rfl, fun wx hbx => ?_⟩) ?_; rotate_left; (focus (obtain ⟨cx0, fx0, zx0⟩ := bk hbx (w.heap.size) (by first | omega | (simp; done) | (simp; omega)); obtain ⟨cx1, fx1, zx1⟩ := bk hbx (w.heap.size + 1) (by first | omega | (simp; done) | (simp; omega)); obtain ⟨cx2, fx2, zx2⟩ := bk hbx (bp) (by first | omega | (simp; done) | (simp; omega)); go_simp; (try go_bits); (try with_reducible rfl))); try simp only [Act.put, List.setIfInBounds_toArray, List.set_cons_zero, List.set_cons_succ])
      (refine wpG_read (v := ?_) rfl (.inl ⟨by rfl, fun wx hbx => ?_⟩) ?_; rotate_left; (focus (obtain ⟨cx0, fx0, zx0⟩ := bk hbx (w.heap.size) (by first | omega | (simp; done) | (simp; omega)); obtain ⟨cx1, fx1, zx1⟩ := bk hbx (w.heap.size + 1) (by first | omega | (simp; done) | (simp; omega)); obtain ⟨cx2, fx2, zx2⟩ := bk hbx (bp) (by first | omega | (simp; done) | (simp; omega)); go_simp; (try go_bits); (try with_reducible rfl))); try simp only [Act.put, List.setIfInBounds_toArray, List.set_cons_zero, List.set_cons_succ])
      (refine wpG_read (v := ?_) rfl (.inl ⟨by rfl, fun wx hbx => ?_⟩) ?_; rotate_left; (focus (obtain ⟨cx0, fx0, zx0⟩ := bk hbx (w.heap.size) (by first | omega | (simp; done) | (simp; omega)); obtain ⟨cx1, fx1, zx1⟩ := bk hbx (w.heap.size + 1) (by first | omega | (simp; done) | (simp; omega)); obtain ⟨cx2, fx2, zx2⟩ := bk hbx (bp) (by first | omega | (simp; done) | (simp; omega)); go_simp; (try go_bits); (try with_reducible rfl))); try simp only [Act.put, List.setIfInBounds_toArray, List.set_cons_zero, List.set_cons_succ])
      (refine wpG_read (v := ?_) rfl (.inl ⟨by rfl, fun wx hbx => ?_⟩) ?_; rotate_left; (focus (obtain ⟨cx0, fx0, zx0⟩ := bk hbx (w.heap.size) (by first | omega | (simp; done) | (simp; omega)); obtain ⟨cx1, fx1, zx1⟩ := bk hbx (w.heap.size + 1) (by first | omega | (simp; done) | (simp; omega)); obtain ⟨cx2, fx2, zx2⟩ := bk hbx (bp) (by first | omega | (simp; done) | (simp; omega)); go_simp; (try go_bits); (try with_reducible rfl))); try simp only [Act.put, List.setIfInBounds_toArray, List.set_cons_zero, List.set_cons_succ])
      (refine wpG_read (v := ?_) rfl (.inl ⟨by rfl, fun wx hbx => ?_⟩) ?_; rotate_left; (focus (obtain ⟨cx0, fx0, zx0⟩ := bk hbx (w.heap.size) (by first | omega | (simp; done) | (simp; omega)); obtain ⟨cx1, fx1, zx1⟩ := bk hbx (w.heap.size + 1) (by first | omega | (simp; done) | (simp; omega)); obtain ⟨cx2, fx2, zx2⟩ := bk hbx (bp) (by first | omega | (simp; done) | (simp; omega)); go_simp; (try go_bits); (try with_reducible rfl))); try simp only [Act.put, List.setIfInBounds_toArray, List.set_cons_zero, List.set_cons_succ])
      (refine wpG_read (v := ?_) rfl (.inl ⟨by rfl, fun wx hbx => ?_⟩) ?_; rotate_left; (focus (obtain ⟨cx0, fx0, zx0⟩ := bk hbx (w.heap.size) (by first | omega | (simp; done) | (simp; omega)); obtain ⟨cx1, fx1, zx1⟩ := bk hbx (w.heap.size + 1) (by first | omega | (simp; done) | (simp; omega)); obtain ⟨cx2, fx2, zx2⟩ := bk hbx (bp) (by first | omega | (simp; done) | (simp; omega)); go_simp; (try go_bits); (try with_reducible rfl))); try simp only [Act.put, List.setIfInBounds_toArray, List.set_cons_zero, List.set_cons_succ])
      (refine wpG_read (v := ?_) rfl (.inl ⟨by rfl, fun wx hbx => ?_⟩) ?_; rotate_left; (focus (obtain ⟨cx0, fx0, zx0⟩ := bk hbx (w.heap.size) (by first | omega | (simp; done) | (simp; omega)); obtain ⟨cx1, fx1, zx1⟩ := bk hbx (w.heap.size + 1) (by first | omega | (simp; done) | (simp; omega)); obtain ⟨cx2, fx2, zx2⟩ := bk hbx (bp) (by first | omega | (simp; done) | (simp; omega)); go_simp; (try go_bits); (try with_reducible rfl))); try simp only [Act.put, List.setIfInBounds_toArray, List.set_cons_zero, List.set_cons_succ])
      (refine wpG_read (v := ?_) rfl (.inl ⟨by rfl, fun wx hbx => ?_⟩) ?_; rotate_left; (focus (obtain ⟨cx0, fx0, zx0⟩ := bk hbx (w.heap.size) (by first | omega | (simp; done) | (simp; omega)); obtain ⟨cx1, fx1, zx1⟩ := bk hbx (w.heap.size + 1) (by first | omega | (simp; done) | (simp; omega)); obtain ⟨cx2, fx2, zx2⟩ := bk hbx (bp) (by first | omega | (simp; done) | (simp; omega)); go_simp; (try go_bits); (try with_reducible rfl))); try simp only [Act.put, List.setIfInBounds_toArray, List.set_cons_zero, List.set_cons_succ])
      (refine wpG_read (v := ?_) rfl (.inl ⟨by rfl, fun wx hbx => ?_⟩) ?_; rotate_left; (focus (obtain ⟨cx0, fx0, zx0⟩ := bk hbx (w.heap.size) (by first | omega | (simp; done) | (simp; omega)); obtain ⟨cx1, fx1, zx1⟩ := bk hbx (w.heap.size + 1) (by first | omega | (simp; done) | (simp; omega)); obtain ⟨cx2, fx2, zx2⟩ := bk hbx (bp) (by first | omega | (simp; done) | (simp; omega)); go_simp; (try go_bits); (try with_reducible rfl))); try simp only [Act.put, List.setIfInBounds_toArray, List.set_cons_zero, List.set_cons_succ])
      (refine wpG_read (v := ?_) rfl (.inl ⟨by rfl, fun wx hbx => ?_⟩) ?_; rotate_left; (focus (obtain ⟨cx0, fx0, zx0⟩ := bk hbx (w.heap.size) (by first | omega | (simp; done) | (simp; omega)); obtain ⟨cx1, fx1, zx1⟩ := bk hbx (w.heap.size + 1) (by first | omega | (simp; done) | (simp; omega)); obtain ⟨cx2, fx2, zx2⟩ := bk hbx (bp) (by first | omega | (simp; done) | (simp; omega)); go_simp; (try go_bits); (try with_reducible rfl))); try simp only [Act.put, List.setIfInBounds_toArray, List.set_cons_zero, List.set_cons_succ])
      (refine wpG_read (v := ?_) rfl (.inl ⟨by rfl, fun wx hbx => ?_⟩) ?_; rotate_left; (focus (obtain ⟨cx0, fx0, zx0⟩ := bk hbx (w.heap.size) (by first | omega | (simp; done) | (simp; omega)); obtain ⟨cx1, fx1, zx1⟩ := bk hbx (w.heap.size + 1) (by first | omega | (simp; done) | (simp; omega)); obtain ⟨cx2, fx2, zx2⟩ := bk hbx (bp) (by first | omega | (simp; done) | (simp; omega)); go_simp; (try go_bits); (try with_reducible rfl))); try simp only [Act.put, List.setIfInBounds_toArray, List.set_cons_zero, List.set_cons_succ])
      (refine wpG_read (v := ?_) rfl (.inl ⟨by rfl, fun wx hbx => ?_⟩) ?_; rotate_left; (focus (obtain ⟨cx0, fx0, zx0⟩ := bk hbx (w.heap.size) (by first | omega | (simp; done) | (simp; omega)); obtain ⟨cx1, fx1, zx1⟩ := bk hbx (w.heap.size + 1) (by first | omega | (simp; done) | (simp; omega)); obtain ⟨cx2, fx2, zx2⟩ := bk hbx (bp) (by first | omega | (simp; done) | (simp; omega)); go_simp; (try go_bits); (try with_reducible rfl))); try simp only [Act.put, List.setIfInBounds_toArray, List.set_cons_zero, List.set_cons_succ])
      (refine wpG_read (v := ?_) rfl (.inl ⟨by rfl, fun wx hbx => ?_⟩) ?_; rotate_left; (focus (obtain ⟨cx0, fx0, zx0⟩ := bk hbx (w.heap.size) (by first | omega | (simp; done) | (simp; omega)); obtain ⟨cx1, fx1, zx1⟩ := bk hbx (w.heap.size + 1) (by first | omega | (simp; done) | (simp; omega)); obtain ⟨cx2, fx2, zx2⟩ := bk hbx (bp) (by first | omega | (simp; done) | (simp; omega)); go_simp; (try go_bits); (try with_reducible rfl))); try simp only [Act.put, List.setIfInBounds_toArray, List.set_cons_zero, List.set_cons_succ])
      (refine wpG_read (v := ?_) rfl (.inl ⟨by rfl, fun wx hbx => ?_⟩) ?_; rotate_left; (focus (obtain ⟨cx0, fx0, zx0⟩ := bk hbx (w.heap.size) (by first | omega | (simp; done) | (simp; omega)); obtain ⟨cx1, fx1, zx1⟩ := bk hbx (w.heap.size + 1) (by first | omega | (simp; done) | (simp; omega)); obtain ⟨cx2, fx2, zx2⟩ := bk hbx (bp) (by first | omega | (simp; done) | (simp; omega)); go_simp; (try go_bits); (try with_reducible rfl))); try simp only [Act.put, List.setIfInBounds_toArray, List.set_cons_zero, List.set_cons_succ])
      (refine wpG_read (v := ?_) rfl (.inl ⟨by rfl, fun wx hbx => ?_⟩) ?_; rotate_left; (focus (obtain ⟨cx0, fx0, zx0⟩ := bk hbx (w.heap.size) (by first | omega | (simp; done) | (simp; omega)); obtain ⟨cx1, fx1, zx1⟩ := bk hbx (w.heap.size + 1) (by first | omega | (simp; done) | (simp; omega)); obtain ⟨cx2, fx2, zx2⟩ := bk hbx (bp) (by first | omega | (simp; done) | (simp; omega)); go_simp; (try go_bits); (try with_reducible rfl))); try simp only [Act.put, List.setIfInBounds_toArray, List.set_cons_zero, List.set_cons_succ])
      (refine wpG_read (v := ?_) rfl (.inl ⟨by rfl, fun wx hbx => ?_⟩) ?_; rotate_left; (focus (obtain ⟨cx0, fx0, zx0⟩ := bk hbx (w.heap.size) (by first | omega | (simp; done) | (simp; omega)); obtain ⟨cx1, fx1, zx1⟩ := bk hbx (w.heap.size + 1) (by first | omega | (simp; done) | (simp; omega)); obtain ⟨cx2, fx2, zx2⟩ := bk hbx (bp) (by first | omega | (simp; done) | (simp; omega)); go_simp; (try go_bits); (try with_reducible rfl))); try simp only [Act.put, List.setIfInBounds_toArray, List.set_cons_zero, List.set_cons_succ])
      (refine wpG_read (v := ?_) rfl (.inl ⟨by rfl, fun wx hbx => ?_⟩) ?_; rotate_left; (focus (obtain ⟨cx0, fx0, zx0⟩ := bk hbx (w.heap.size) (by first | omega | (simp; done) | (simp; omega)); obtain ⟨cx1, fx1, zx1⟩ := bk hbx (w.heap.size + 1) (by first | omega | (simp; done) | (simp; omega)); obtain ⟨cx2, fx2, zx2⟩ := bk hbx (bp) (by first | omega | (simp; done) | (simp; omega)); go_simp; (try go_bits); (try with_reducible rfl))); try simp only [Act.put, List.setIfInBounds_toArray, List.set_cons_zero, List.set_cons_succ])
      (refine wpG_read (v := ?_) rfl (.inl ⟨by rfl, fun wx hbx => ?_⟩) ?_; rotate_left; (focus (obtain ⟨cx0, fx0, zx0⟩ := bk hbx (w.heap.size) (by first | omega | (simp; done) | (simp; omega)); obtain ⟨cx1, fx1, zx1⟩ := bk hbx (w.heap.size + 1) (by first | omega | (simp; done) | (simp; omega)); obtain ⟨cx2, fx2, zx2⟩ := bk hbx (bp) (by first | omega | (simp; done) | (simp; omega)); go_simp; (try go_bits); (try with_reducible rfl))); try simp only [Act.put, List.setIfInBounds_toArray, List.set_cons_zero, List.set_cons_succ])
      (refine wpG_read (v := ?_) rfl (.inl ⟨by rfl, fun wx hbx => ?_⟩) ?_; rotate_left; (focus (obtain ⟨cx0, fx0, zx0⟩ := bk hbx (w.heap.size) (by first | omega | (simp; done) | (simp; omega)); obtain ⟨cx1, fx1, zx1⟩ := bk hbx (w.heap.size + 1) (by first | omega | (simp; done) | (simp; omega)); obtain ⟨cx2, fx2, zx2⟩ := bk hbx (bp) (by first | omega | (simp; done) | (simp; omega)); go_simp; (try go_bits); (try with_reducible rfl))); try simp only [Act.put, List.setIfInBounds_toArray, List.set_cons_zero, List.set_cons_succ])
      (refine wpG_make rfl (fun K hK => ?_); go_simp; (first | (go_at_call 58; (with_reducible refine (HRA.out _ _ (by (repeat' (first | (with_reducible exact Below.refl _ _) | (with_reducible assumption) | (with_reducible refine below_from_drew ?_) | (with_reducible refine Below.alloc ?_ ?_ _) | (with_reducible refine Below.drew ?_) | (with_reducible refine below_drewN ?_ _) | (with_reducible refine Below.setCell ?_ ?_ _) | (with_reducible refine below_via ?_ (by assumption) ?_) | (with_reducible refine below_ov ?_ ?_ _ _) | go_size)))).mono ?_); rintro e u1 ⟨ra, rca, rfl, hla, hia, hb⟩; have hz := hb.size; refine (fun hB => ?_ : Below wr.heap.size wr u1 → _) ?_; rotate_left; (focus ((repeat' (first | (with_reducible exact Below.refl _ _) | (with_reducible assumption) | (with_reducible refine below_from_drew ?_) | (with_reducible refine Below.alloc ?_ ?_ _) | (with_reducible refine Below.drew ?_) | (with_reducible refine below_drewN ?_ _) | (with_reducible refine Below.setCell ?_ ?_ _) | (with_reducible refine below_via ?_ (by assumption) ?_) | (with_reducible refine below_ov ?_ ?_ _ _) | go_size)); done)); (try simp only [World.size_alloc, World.size_setCell, World.size_drew, ov_size] at hz)) | (go_at_call 58; (with_reducible refine (HRB.out _ _ (by (repeat' (first | (with_reducible exact Below.refl _ _) | (with_reducible assumption) | (with_reducible refine below_from_drew ?_) | (with_reducible refine Below.alloc ?_ ?_ _) | (with_reducible refine Below.drew ?_) | (with_reducible refine below_drewN ?_ _) | (with_reducible refine Below.setCell ?_ ?_ _) | (with_reducible refine below_via ?_ (by assumption) ?_) | (with_reducible refine below_ov ?_ ?_ _ _) | go_size)))).mono ?_); rintro e u2 ⟨rb, rcb, rfl, hlb, hib, hb⟩; replace hia := hia.below hb; have hz := hb.size; refine (fun hB => ?_ : Below wr.heap.size wr u2 → _) ?_; rotate_left; (focus ((repeat' (first | (with_reducible exact Below.refl _ _) | (with_reducible assumption) | (with_reducible refine below_from_drew ?_) | (with_reducible refine Below.alloc ?_ ?_ _) | (with_reducible refine Below.drew ?_) | (with_reducible refine below_drewN ?_ _) | (with_reducible refine Below.setCell ?_ ?_ _) | (with_reducible refine below_via ?_ (by assumption) ?_) | (with_reducible refine below_ov ?_ ?_ _ _) | go_size)); done)); (try simp only [World.size_alloc, World.size_setCell, World.size_drew, ov_size] at hz))); (try simp only []); refine hK _ _ ?_ (fun hS2 => ?_); (focus ((repeat' (first | (with_reducible exact Below.refl _ _) | (with_reducible assumption) | (with_reducible refine below_from_drew ?_) | (with_reducible refine Below.alloc ?_ ?_ _) | (with_reducible refine Below.drew ?_) | (with_reducible refine below_drewN ?_ _) | (with_reducible refine Below.setCell ?_ ?_ _) | (with_reducible refine below_via ?_ (by assumption) ?_) | (with_reducible refine below_ov ?_ ?_ _ _) | go_size)); done)); clear hK K hS; have hS := hS2; clear hS2; (try clear hb); try simp only [Act.put, List.setIfInBounds_toArray, List.set_cons_zero, List.set_cons_succ])
      (refine wpG_make rfl (fun K hK => ?_); go_simp; (first | (go_at_call 58; (with_reducible refine (HRA.out _ _ (by (repeat' (first | (with_reducible exact Below.refl _ _) | (with_reducible assumption) | (with_reducible refine below_from_drew ?_) | (with_reducible refine Below.alloc ?_ ?_ _) | (with_reducible refine Below.drew ?_) | (with_reducible refine below_drewN ?_ _) | (with_reducible refine Below.setCell ?_ ?_ _) | (with_reducible refine below_via ?_ (by assumption) ?_) | (with_reducible refine below_ov ?_ ?_ _ _) | go_size)))).mono ?_); rintro e u1 ⟨ra, rca, rfl, hla, hia, hb⟩; have hz := hb.size; refine (fun hB => ?_ : Below wr.heap.size wr u1 → _) ?_; rotate_left; (focus ((repeat' (first | (with_reducible exact Below.refl _ _) | (with_reducible assumption) | (with_reducible refine below_from_drew ?_) | (with_reducible refine Below.alloc ?_ ?_ _) | (with_reducible refine Below.drew ?_) | (with_reducible refine below_drewN ?_ _) | (with_reducible refine Below.setCell ?_ ?_ _) | (with_reducible refine below_via ?_ (by assumption) ?_) | (with_reducible refine below_ov ?_ ?_ _ _) | go_size)); done)); (try simp only [World.size_alloc, World.size_setCell, World.size_drew, ov_size] at hz)) | (go_at_call 58; (with_reducible refine (HRB.out _ _ (by (repeat' (first | (with_reducible exact Below.refl _ _) | (with_reducible assumption) | (with_reducible refine below_from_drew ?_) | (with_reducible refine Below.alloc ?_ ?_ _) | (with_reducible refine Below.drew ?_) | (with_reducible refine below_drewN ?_ _) | (with_reducible refine Below.setCell ?_ ?_ _) | (with_reducible refine below_via ?_ (by assumption) ?_) | (with_reducible refine below_ov ?_ ?_ _ _) | go_size)))).mono ?_); rintro e u2 ⟨rb, rcb, rfl, hlb, hib, hb⟩; replace hia := hia.below hb; have hz := hb.size; refine (fun hB => ?_ : Below wr.heap.size wr u2 → _) ?_; rotate_left; (focus ((repeat' (first | (with_reducible exact Below.refl _ _) | (with_reducible assumption) | (with_reducible refine below_from_drew ?_) | (with_reducible refine Below.alloc ?_ ?_ _) | (with_reducible refine Below.drew ?_) | (with_reducible refine below_drewN ?_ _) | (with_reducible refine Below.setCell ?_ ?_ _) | (with_reducible refine below_via ?_ (by assumption) ?_) | (with_reducible refine below_ov ?_ ?_ _ _) | go_size)); done)); (try simp only [World.size_alloc, World.size_setCell, World.size_drew, ov_size] at hz))); (try simp only []); refine hK _ _ ?_ (fun hS2 => ?_); (focus ((repeat' (first | (with_reducible exact Below.refl _ _) | (with_reducible assumption) | (with_reducible refine below_from_drew ?_) | (with_reducible refine Below.alloc ?_ ?_ _) | (with_reducible refine Below.drew ?_) | (with_reducible refine below_drewN ?_ _) | (with_reducible refine Below.setCell ?_ ?_ _) | (with_reducible refine below_via ?_ (by assumption) ?_) | (with_reducible refine below_ov ?_ ?_ _ _) | go_size)); done)); clear hK K hS; have hS := hS2; clear hS2; (try clear hb); try simp only [Act.put, List.setIfInBounds_toArray, List.set_cons_zero, List.set_cons_succ])
      (refine wpG_make rfl (fun K hK => ?_); go_simp; (go_at_call 78; (with_reducible refine (HRU.out _ _ _ _ _ _ hia hib).mono ?_); rintro e u3 ⟨rr, rcr, rfl, hlr, hor, hb⟩; have hz := hb.size; refine (fun hB => ?_ : Below wr.heap.size wr u3 → _) ?_; rotate_left; (focus ((repeat' (first | (with_reducible exact Below.refl _ _) | (with_reducible assumption) | (with_reducible refine below_from_drew ?_) | (with_reducible refine Below.alloc ?_ ?_ _) | (with_reducible refine Below.drew ?_) | (with_reducible refine below_drewN ?_ _) | (with_reducible refine Below.setCell ?_ ?_ _) | (with_reducible refine below_via ?_ (by assumption) ?_) | (with_reducible refine below_ov ?_ ?_ _ _) | go_size)); done)); (try simp only [World.size_alloc, World.size_setCell, World.size_drew, ov_size] at hz)); (try simp only []); refine hK _ _ ?_ (fun hS2 => ?_); (focus ((repeat' (first | (with_reducible exact Below.refl _ _) | (with_reducible assumption) | (with_reducible refine below_from_drew ?_) | (with_reducible refine Below.alloc ?_ ?_ _) | (with_reducible refine Below.drew ?_) | (with_reducible refine below_drewN ?_ _) | (with_reducible refine Below.setCell ?_ ?_ _) | (with_reducible refine below_via ?_ (by assumption) ?_) | (with_reducible refine below_ov ?_ ?_ _ _) | go_size)); done)); clear hK K hS; have hS := hS2; clear hS2; (try clear hb); try simp only [Act.put, List.setIfInBounds_toArray, List.set_cons_zero, List.set_cons_succ])
      (refine wpG_read (v := ?_) rfl (.inl ⟨by rfl, fun wx hbx => ?_⟩) ?_; rotate_left; (focus (obtain ⟨cx0, fx0, zx0⟩ := bk hbx (w.heap.size) (by first | omega | (simp; done) | (simp; omega)); obtain ⟨cx1, fx1, zx1⟩ := bk hbx (w.heap.size + 1) (by first | omega | (simp; done) | (simp; omega)); obtain ⟨cx2, fx2, zx2⟩ := bk hbx (bp) (by first | omega | (simp; done) | (simp; omega)); go_simp; (try go_bits); (try with_reducible rfl))); try simp only [Act.put, List.setIfInBounds_toArray, List.set_cons_zero, List.set_cons_succ])
      have hadd := add_any (w.heap.size + 1 + 1 + 1) w1.heap.size M.length ca al M y0 y1 rr rcr (rowZ keep A B y0) u3 rfl (by omega) (has_below hB HP.out) (by omega) (by have := hB.size; omega) (row_below hB HO.out) (fun b hb => ⟨(HM.out b hb).1.below hB, (HM.out b hb).2⟩) (HRL.out y0) (edgT_owned hor rfl) hlr
      have HADD := Lib.hid hadd
      have hb3 := But.trans HBUT.out (But.of (hB.mono HBUT.out.size))
      have HB3 := Lib.hid hb3
      clear hadd hor hia hib hla hlb hb3 hB hbr hbw
      refine wpG_late rfl (fun K hK => ?_)
      go_simp
      refine HADD.out.mono ?_
      rintro e w4 ⟨rfl, M', al', ca', e1, e2, e3, e4, e5, e6⟩
      refine hK _ _ ?_
      clear hK K hS
      try simp only [Act.put, List.setIfInBounds_toArray, List.set_cons_zero, List.set_cons_succ]
      refine wpG_nil ?_
      have HE1 := Lib.hid e1; have HE3 := Lib.hid e3; have HE4 := Lib.hid e4; have HE5 := Lib.hid e5; have HE6 := Lib.hid (But.trans HB3.out e6)
      clear e1 e3 e4 e5 e6
      go_wp2_with fail
      go_roundw
      case rel =>
        unfold CmbI
        refine ⟨j + 1, M', al', ca', by go_num, .inr (by rw [HPL.out]; exact c1), by omega, ?_, HE3.out, HE4.out, ?_, HE6.out⟩
        · rw [HQ.out, HE1.out]; rfl
        · intro b hb
          refine ⟨(HE5.out b hb).1, (HE5.out b hb).2, ?_⟩
          have q : bmZ b ∈ addB (M.map bmZ) (bmZ ⟨y0, y1, rr, rcr, rowZ keep A B y0⟩) := by rw [← HE1.out]; exact List.mem_map_of_mem hb
          rcases addB_mem q with q1 | ⟨b', q1, q2⟩
          · show (bmZ b).es.length ≤ _
            rw [q1]; exact HRL.out y0
          · obtain ⟨b1, q3, rfl⟩ := List.mem_map.1 q1
            show (bmZ b).es.length ≤ _
            rw [q2]; exact (HM.out b1 q3).2.2
      case measure => simp [intOf]; omega
    · have c2 : decide ((j : Int) + 1 < pl) = false := by simp; omega
      have hfin : M.map bmZ = R := by
        rw [← HPR.out, HEQ.out]
        exact (combB_short _ _ (by rw [List.length_drop, HPL.out]; omega)).symm
      have HF := Lib.hid hfin
      have hl0 := HR2.out.lt
      have hq0 := HP.out.cells; have hql := HP.out.lt
      clear hfin hbw
      rw [← ov_self HR2.out]
      go_wp2_with fail
      refine bodyPost_ret (by simp [results, Try.results49, go_sem, hl0]; try rfl) rfl ?_
      refine ⟨al, ca, ?_, ?_, ?_⟩
      · rw [← HF.out, List.length_map]
      · rw [← HF.out]
        exact bandsAt_owned rfl (rowv_in HO.out (by omega)) (fun b hb => ⟨edgT_ov (HM.out b hb).1 HR2.out (by decide), (HM.out b hb).2.1⟩)
      · exact below_ov hbr (by omega) _ _
end Go.Proofs.Ytkpamofamcndnaa
