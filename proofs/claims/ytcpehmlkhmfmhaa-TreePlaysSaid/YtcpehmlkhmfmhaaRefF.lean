/- clapboardref10: Move by contract. -/
import Derived.Test.YtcpehmlkhmfmhaaRefE
import Derived.Test.YtcpehmlkhmfmhaaTreeJ
namespace Go.Proofs.Ytcpehmlkhmfmhaa
open Go.RowKit
set_option linter.unusedSimpArgs false
set_option linter.unusedVariables false
-- below_from_drew
attribute [local go_sem] ov_cell_same ov_cell_other ov_frozen_same ov_frozen_other ov_size ov_setCell_same ov_setCell_other cell_alloc_old frozen_alloc_old setCell_alloc_old old_alloc old_ov old_drew old_drewN old_setCell
attribute [local go_sem ↓] run_max2 run_min2
/-- What Move leaves. -/
def RMovePost (R : Rows) (next n par at_ : Int) (w : World) (e : Ending) (w' : World) : Prop :=
  ∃ v', e = .returned (.tuple #[v', .int .i64 (moveT R n par at_).2]) ∧ RefAt w' v' (moveT R n par at_).1 next ∧ Below w.heap.size w w'
theorem RMovePost.mk {R R' : Rows} {next n par at_ f : Int} {w w' : World} {e : Ending} {v' : Value} (hF : moveT R n par at_ = (R', f)) (he : e = .returned (.tuple #[v', .int .i64 f])) (ht : RefAt w' v' R' next) (hb : Below w.heap.size w w') : RMovePost R next n par at_ w e w' := by
  unfold RMovePost; rw [hF]; exact ⟨v', he, ht, hb⟩
theorem atF_neg {R : Rows} {k : Int} : atF R k < 0 ↔ findR k R = none := by
  unfold atF
  cases findR k R with
  | none => simp
  | some y => obtain ⟨A, d, C⟩ := y; simp
theorem moveT_none {R : Rows} {n par at_ : Int} (h0 : n ≠ 0) (h : findR n R = none ∨ findR par R = none) : moveT R n par at_ = (R, 9) := by
  unfold moveT
  rw [if_neg h0]
  cases hf : findR n R with
  | none => rfl
  | some y =>
    obtain ⟨A, d, C⟩ := y
    rcases h with h | h
    · rw [hf] at h; cases h
    · show (if _ then _ else _) = _; rw [if_pos (findR_none.1 h)]
/-- Where a number stands tells the part that holds it. -/
theorem at_part {A S B X Y : Rows} {k e : Int} (hnd : (nums (A ++ S ++ B)).Nodup) (h : A ++ S ++ B = X ++ (k, e) :: Y) : k ∈ nums S ↔ A.length ≤ X.length ∧ X.length < A.length + S.length := by
  rcases split3 h with ⟨Y0, h1, h2⟩ | ⟨X0, Y0, h1, h2, h3⟩ | ⟨X0, h1, h2⟩
  · have hk : k ∉ nums S := fun q => by
      obtain ⟨x, hx, e1⟩ := List.mem_map.1 q
      rw [nums_append] at hnd
      have := nums_apart (A := A) (B := S) (List.nodup_append.1 hnd).1 (x := (k, e)) (by rw [h1]; simp) hx
      exact this e1.symm
    have := congrArg List.length h1
    simp at this
    exact ⟨fun q => absurd q hk, fun q => by omega⟩
  · have := congrArg List.length h1
    simp at this
    have := congrArg List.length h2
    simp at this
    exact ⟨fun _ => by omega, fun _ => by rw [h1]; simp [nums]⟩
  · have hk : k ∉ nums S := fun q => by
      obtain ⟨x, hx, e1⟩ := List.mem_map.1 q
      have := nums_apart (A := A ++ S) (B := B) hnd (x := x) (y := (k, e)) (List.mem_append_right _ hx) (by rw [h1]; simp)
      exact this e1
    have := congrArg List.length h2
    simp at this
    exact ⟨fun q => absurd q hk, fun q => by omega⟩
/-- The cells of the part that is moved: the first k of its rows are deeper by z. -/
def PartC (cs : Array Value) (S : Rows) (k : Nat) (z : Int) : Prop := ∀ t, t < S.length → cs[t * 2]? = some (.int .i64 (S.getD t (0, 0)).1) ∧ cs[t * 2 + 1]? = some (.int .i64 ((S.getD t (0, 0)).2 + if t < k then z else 0))
theorem partC_new {cs : Array Value} {S : Rows} {z : Int} (h : cs.toList.take (S.length * 2) = rowVals S) : PartC cs S 0 z := fun t ht => by
  obtain ⟨q1, q2⟩ := rowVals_get S t ht
  rw [← h, List.getElem?_take_of_lt (by omega), Array.getElem?_toList] at q1 q2
  rw [if_neg (by omega), Int.add_zero]
  exact ⟨q1, q2⟩
theorem partC_step {cs : Array Value} {S : Rows} {k : Nat} {z : Int} (h : PartC cs S k z) (hk : k < S.length) : PartC (cs.setIfInBounds (k * 2 + 1) (.int .i64 ((S.getD k (0, 0)).2 + z))) S (k + 1) z := fun t ht => by
  obtain ⟨q1, q2⟩ := h t ht
  have hs : t * 2 + 1 < cs.size := by
    rcases Nat.lt_or_ge (t * 2 + 1) cs.size with h' | h'
    · exact h'
    · rw [Array.getElem?_eq_none h'] at q2; cases q2
  refine ⟨by rw [Array.getElem?_setIfInBounds_ne (by omega)]; exact q1, ?_⟩
  by_cases e : t = k
  · subst e
    rw [Array.getElem?_setIfInBounds_self_of_lt hs, if_pos (by omega)]
  · rw [Array.getElem?_setIfInBounds_ne (by omega), q2]
    by_cases c : t < k
    · rw [if_pos c, if_pos (by omega)]
    · rw [if_neg c, if_neg (by omega)]
theorem shiftR_getD {S : Rows} {t : Nat} {z : Int} (h : t < S.length) : (shiftR z S).getD t (0, 0) = ((S.getD t (0, 0)).1, (S.getD t (0, 0)).2 + z) := by
  simp [shiftR, List.getD_eq_getElem?_getD, h]
theorem partC_rows {w : World} {g : Nat} {T : TypeId} {cs : Array Value} {S : Rows} {z : Int} (h : PartC cs S S.length z) (hh : Has w g cs T) : RowsAt w (some ⟨g, 0, none⟩) (shiftR z S) := fun _ => ⟨g, 0, rfl, hh.lt, fun i hi => by
  have hi2 : i < S.length := by simpa [shiftR] using hi
  obtain ⟨q1, q2⟩ := h i hi2
  rw [shiftR_getD hi2, Nat.zero_add, hh.cells, hh.cells, q1, q2, if_pos hi2]
  exact ⟨rfl, rfl⟩⟩
/-- Is one of the first k rows too deep? -/
def deepB (S : Rows) (k : Nat) (z : Int) : Bool := (S.take k).any fun x => decide (64 < x.2 + z)
theorem deepB_succ {S : Rows} {k : Nat} {z : Int} (h : k < S.length) : deepB S (k + 1) z = (deepB S k z || decide (64 < (S.getD k (0, 0)).2 + z)) := by
  unfold deepB
  rw [List.take_add_one, List.getElem?_eq_getElem h, List.any_append]
  simp [List.getD_eq_getElem?_getD, h]
theorem deepB_all {S : Rows} {d z : Int} {n : Int} {T : Rows} (hS : S = (n, d) :: T) : deepB S S.length z = decide (64 < d + z + maxDeep d S) := by
  obtain ⟨h0, h1⟩ := maxDeep_ge d S
  unfold deepB
  rw [List.take_length, Bool.eq_iff_iff, List.any_eq_true, decide_eq_true_eq]
  constructor
  · rintro ⟨x, hx, q⟩
    have := h1 x hx
    have q : 64 < x.2 + z := by simpa using q
    omega
  · intro q
    refine Classical.byContradiction fun hno => ?_
    have hall : ∀ y ∈ S, y.2 - d ≤ max 0 (64 - d - z) := fun y hy => by
      have : ¬ 64 < y.2 + z := fun q2 => hno ⟨y, hy, by simpa using q2⟩
      omega
    have h2 := maxDeep_le hall (by omega)
    have hd : ¬ 64 < d + z := fun q2 => hno ⟨(n, d), by rw [hS]; simp, by simpa using q2⟩
    omega
/-- Where the loop over the part stands. -/
def PartI (w : World) (p2 g : Nat) (T0 T1 : TypeId) (c0 c1 c2 : Array Value) (a5 : Option Addr) (R5 S : Rows) (z : Int) (dv iv : Value) (wr : World) : Prop :=
  ∃ (k : Nat) (cs : Array Value), iv = .int .i64 (k : Int) ∧ k ≤ S.length ∧ dv = .bool (deepB S k z) ∧ Below w.heap.size w wr ∧ Has wr w.heap.size c0 T0 ∧ Has wr (w.heap.size + 1) c1 T0 ∧ Has wr p2 c2 T0 ∧ RowsAt wr a5 R5 ∧ Has wr g cs T1 ∧ PartC cs S k z
theorem rowsAt_ov {u : World} {g b off : Nat} {cs : Array Value} {T : TypeId} {R : Rows} (hne : b ≠ g) (h : RowsAt u (some ⟨b, off, none⟩) R) : RowsAt (ov u g cs T) (some ⟨b, off, none⟩) R := fun h0 => by
  obtain ⟨b', off', e, hb, hc⟩ := h h0
  cases e
  have a0 : ∀ o, ¬ ((⟨b, o, none⟩ : Addr) = ⟨g, o, none⟩) := fun o e => hne (by injection e)
  exact ⟨b, off, rfl, by simpa using hb, fun i hi => ⟨(ov_cell_other (a0 _)).trans (hc i hi).1, (ov_cell_other (a0 _)).trans (hc i hi).2⟩⟩
theorem rowsAt_ov1 {u : World} {p : Nat} {x : Option Addr} {y z : Nat} {k : Int} {T T' : TypeId} {c : Array Value} {R : Rows} {a : Option Addr} (hp : Has u p #[.slice x y z, .int .i64 k] T) (h : RowsAt u a R) : RowsAt (ov u p c T') a R := fun h0 => by
  obtain ⟨b, off, rfl, hb, hc⟩ := h h0
  exact rowsAt_ov (rowsAt_not hp h0 hc) (fun _ => ⟨b, off, rfl, hb, hc⟩) h0
set_option maxRecDepth 100000 in
set_option maxHeartbeats 8000000 in
theorem rmove_any (v : Value) (R : Rows) (next n par at_ : Int) (w : World) (h : RefAt w v R next) (hw : WfR R next) (hm : R.length ≤ 50000) :
    Calls Try.prog 19 #[v, .int .i64 n, .int .i64 par, .int .i64 at_] w (RMovePost R next n par at_ w) := by
  have HREF := Lib.hid h
  obtain ⟨b, off, c, rfl, hlc, hb, hc⟩ := h
  obtain ⟨l, hl⟩ : ∃ l, R.length = l := ⟨_, rfl⟩
  rw [hl] at hlc ⊢
  have hra : RowsAt w (some ⟨b, off, none⟩) R := fun _ => ⟨b, off, rfl, hb, hc⟩
  have HATn := Lib.hid (fun u (hu : Below w.heap.size w u) => at_any (some ⟨b, off, none⟩) l c next n R u hl (by omega) (hra.below hu))
  have HATp := Lib.hid (fun u (hu : Below w.heap.size w u) => at_any (some ⟨b, off, none⟩) l c next par R u hl (by omega) (hra.below hu))
  have HL := Lib.hid hl
  have hob : Old w b := hb
  by_cases hn0 : n = 0
  · have hF : moveT R n par at_ = (R, 1) := by unfold moveT; rw [if_pos hn0]
    have HFF := Lib.hid hF
    subst hn0
    clear hc hra hF hw hl hm
    generalize hA : Value.agg #[.slice (some ⟨b, off, none⟩) R.length c, .int .i64 next] = v at HREF
    rw [HL.out] at hA
    subst hA
    go_enter Try.func19, Try.ntmps19
    go_wp2_with (refine bodyPost_ct (b := w.heap.size + 1) Try.results19 rfl rfl (has_new (w := w.alloc _) (by simp)) Try.underlying28 rfl rfl rfl rfl ?_)
    have hB : Below w.heap.size w ((w.alloc (.cells #[.slice (some ⟨b, off, none⟩) l c, .int .i64 next] 28)).alloc (.cells #[.slice (some ⟨b, off, none⟩) l c, .int .i64 next] 28)) := by (repeat' (first | (with_reducible exact Below.refl _ _) | (with_reducible assumption) | (with_reducible refine below_from_drew ?_) | (with_reducible refine Below.alloc ?_ ?_ _) | (with_reducible refine Below.drew ?_) | (with_reducible refine below_drewN ?_ _) | (with_reducible refine Below.setCell ?_ ?_ _) | (with_reducible refine below_via ?_ (by assumption) ?_) | (with_reducible refine below_ov ?_ ?_ _ _) | go_size))
    exact .mk HFF.out rfl (HREF.out.below hB) hB
  · have hne : (n == 0) = false := by simp [hn0]
    have hFn := fun (q : findR n R = none ∨ findR par R = none) => moveT_none (at_ := at_) hn0 q
    have hin : atF R n < 0 ↔ findR n R = none := atF_neg
    have hip : atF R par < 0 ↔ findR par R = none := atF_neg
    have hRV := RowsAt.vals hc
    have HC := Lib.hid hc; have HW := Lib.hid hw; have HM := Lib.hid hm; have HN0 := Lib.hid hn0; have HRA := Lib.hid hra; have HFN := Lib.hid hFn; have HIN := Lib.hid hin; have HIP := Lib.hid hip; have HRV := Lib.hid hRV
    clear hc hw hm hn0 hra hFn hin hip hRV
    generalize hA : Value.agg #[.slice (some ⟨b, off, none⟩) R.length c, .int .i64 next] = v at HREF
    rw [HL.out] at hA
    subst hA
    clear hl
    have hlm : l ≤ 50000 := by rw [← HL.out]; exact HM.out
    obtain ⟨ia, hia⟩ : ∃ ia, atF R n = ia := ⟨_, rfl⟩
    obtain ⟨ip, hip⟩ : ∃ ip, atF R par = ip := ⟨_, rfl⟩
    rw [hia] at HATn HIN
    rw [hip] at HATp HIP
    have HIA := Lib.hid hia; have HIPP := Lib.hid hip
    clear hia hip
    go_enter Try.func19, Try.ntmps19
    go_wp2_with fail
    refine region_ord [(0, 0), (1, 0), (3, 0), (4, 0), (2, 1), (5, 1), (6, 0), (7, 0)] (by kernel_rfl) (by kernel_rfl) (fun _ _ d _ _ h => by cases d <;> exact h) (fun hS => ?_)
    (refine wpG_read (v := ?_) rfl (.inl ⟨by rfl, fun wx hbx => ?_⟩) ?_; rotate_left; (focus (obtain ⟨cx0, fx0, zx0⟩ := bk hbx (w.heap.size) (by first | omega | (simp; done) | (simp; omega)); obtain ⟨cx1, fx1, zx1⟩ := bk hbx (w.heap.size + 1) (by first | omega | (simp; done) | (simp; omega)); go_simp; (try go_bits); (try with_reducible rfl))); try simp only [Act.put, List.setIfInBounds_toArray, List.set_cons_zero, List.set_cons_succ])
    (refine wpG_read (v := ?_) rfl (.inl ⟨by rfl, fun wx hbx => ?_⟩) ?_; rotate_left; (focus (obtain ⟨cx0, fx0, zx0⟩ := bk hbx (w.heap.size) (by first | omega | (simp; done) | (simp; omega)); obtain ⟨cx1, fx1, zx1⟩ := bk hbx (w.heap.size + 1) (by first | omega | (simp; done) | (simp; omega)); go_simp; (try go_bits); (try with_reducible rfl))); try simp only [Act.put, List.setIfInBounds_toArray, List.set_cons_zero, List.set_cons_succ])
    (refine wpG_read (v := ?_) rfl (.inl ⟨by rfl, fun wx hbx => ?_⟩) ?_; rotate_left; (focus (obtain ⟨cx0, fx0, zx0⟩ := bk hbx (w.heap.size) (by first | omega | (simp; done) | (simp; omega)); obtain ⟨cx1, fx1, zx1⟩ := bk hbx (w.heap.size + 1) (by first | omega | (simp; done) | (simp; omega)); go_simp; (try go_bits); (try with_reducible rfl))); try simp only [Act.put, List.setIfInBounds_toArray, List.set_cons_zero, List.set_cons_succ])
    (refine wpG_read (v := ?_) rfl (.inl ⟨by rfl, fun wx hbx => ?_⟩) ?_; rotate_left; (focus (obtain ⟨cx0, fx0, zx0⟩ := bk hbx (w.heap.size) (by first | omega | (simp; done) | (simp; omega)); obtain ⟨cx1, fx1, zx1⟩ := bk hbx (w.heap.size + 1) (by first | omega | (simp; done) | (simp; omega)); go_simp; (try go_bits); (try with_reducible rfl))); try simp only [Act.put, List.setIfInBounds_toArray, List.set_cons_zero, List.set_cons_succ])
    (refine wpG_make rfl (fun K hK => ?_); go_simp; (first | (go_at_call 54; (with_reducible refine (HATn.out _ (by (repeat' (first | (with_reducible exact Below.refl _ _) | (with_reducible assumption) | (with_reducible refine below_from_drew ?_) | (with_reducible refine Below.alloc ?_ ?_ _) | (with_reducible refine Below.drew ?_) | (with_reducible refine below_drewN ?_ _) | (with_reducible refine Below.setCell ?_ ?_ _) | (with_reducible refine below_via ?_ (by assumption) ?_) | (with_reducible refine below_ov ?_ ?_ _ _) | go_size)))).mono ?_); rintro e w1 ⟨rfl, hb⟩; refine Exists.elim (after2 (w := w) (b0 := w.heap.size) (cs0 := ?_) (T0 := ?_) (b1 := w.heap.size + 1) (cs1 := ?_) (T1 := ?_) hb ?_ ?_ ?_) ?_; rotate_left 4; (focus ((repeat' (first | (with_reducible exact Below.refl _ _) | (with_reducible assumption) | (with_reducible refine below_from_drew ?_) | (with_reducible refine Below.alloc ?_ ?_ _) | (with_reducible refine Below.drew ?_) | (with_reducible refine below_drewN ?_ _) | (with_reducible refine Below.setCell ?_ ?_ _) | (with_reducible refine below_via ?_ (by assumption) ?_) | (with_reducible refine below_ov ?_ ?_ _ _) | go_size)); done)); (focus ((repeat' (first | (with_reducible refine has_drew ?_) | (with_reducible refine has_drewN ?_) | (with_reducible refine has_new ?_; (first | (with_reducible rfl) | omega | (simp; done) | (simp; omega))) | (with_reducible refine has_ov_same ?_; (first | (with_reducible rfl) | omega | (simp; done) | (simp; omega))) | (with_reducible refine has_alloc ?_) | (with_reducible refine has_ov_other ?_ ?_; (focus (first | (with_reducible rfl) | omega | (simp; done) | (simp; omega)))) | (with_reducible assumption))); done)); (focus ((repeat' (first | (with_reducible refine has_drew ?_) | (with_reducible refine has_drewN ?_) | (with_reducible refine has_new ?_; (first | (with_reducible rfl) | omega | (simp; done) | (simp; omega))) | (with_reducible refine has_ov_same ?_; (first | (with_reducible rfl) | omega | (simp; done) | (simp; omega))) | (with_reducible refine has_alloc ?_) | (with_reducible refine has_ov_other ?_ ?_; (focus (first | (with_reducible rfl) | omega | (simp; done) | (simp; omega)))) | (with_reducible assumption))); done)); rintro u1 ⟨rfl, hB, hz, z0, o0, z1, o1⟩; (try simp only [World.size_alloc, World.size_setCell, World.size_drew, ov_size] at hz)) | (go_at_call 54; (with_reducible refine (HATp.out _ (by (repeat' (first | (with_reducible exact Below.refl _ _) | (with_reducible assumption) | (with_reducible refine below_from_drew ?_) | (with_reducible refine Below.alloc ?_ ?_ _) | (with_reducible refine Below.drew ?_) | (with_reducible refine below_drewN ?_ _) | (with_reducible refine Below.setCell ?_ ?_ _) | (with_reducible refine below_via ?_ (by assumption) ?_) | (with_reducible refine below_ov ?_ ?_ _ _) | go_size)))).mono ?_); rintro e w1 ⟨rfl, hb⟩; refine Exists.elim (after2 (w := w) (b0 := w.heap.size) (cs0 := ?_) (T0 := ?_) (b1 := w.heap.size + 1) (cs1 := ?_) (T1 := ?_) hb ?_ ?_ ?_) ?_; rotate_left 4; (focus ((repeat' (first | (with_reducible exact Below.refl _ _) | (with_reducible assumption) | (with_reducible refine below_from_drew ?_) | (with_reducible refine Below.alloc ?_ ?_ _) | (with_reducible refine Below.drew ?_) | (with_reducible refine below_drewN ?_ _) | (with_reducible refine Below.setCell ?_ ?_ _) | (with_reducible refine below_via ?_ (by assumption) ?_) | (with_reducible refine below_ov ?_ ?_ _ _) | go_size)); done)); (focus ((repeat' (first | (with_reducible refine has_drew ?_) | (with_reducible refine has_drewN ?_) | (with_reducible refine has_new ?_; (first | (with_reducible rfl) | omega | (simp; done) | (simp; omega))) | (with_reducible refine has_ov_same ?_; (first | (with_reducible rfl) | omega | (simp; done) | (simp; omega))) | (with_reducible refine has_alloc ?_) | (with_reducible refine has_ov_other ?_ ?_; (focus (first | (with_reducible rfl) | omega | (simp; done) | (simp; omega)))) | (with_reducible assumption))); done)); (focus ((repeat' (first | (with_reducible refine has_drew ?_) | (with_reducible refine has_drewN ?_) | (with_reducible refine has_new ?_; (first | (with_reducible rfl) | omega | (simp; done) | (simp; omega))) | (with_reducible refine has_ov_same ?_; (first | (with_reducible rfl) | omega | (simp; done) | (simp; omega))) | (with_reducible refine has_alloc ?_) | (with_reducible refine has_ov_other ?_ ?_; (focus (first | (with_reducible rfl) | omega | (simp; done) | (simp; omega)))) | (with_reducible assumption))); done)); rintro u2 ⟨rfl, hB, hz, z0, o0, z1, o1⟩; (try simp only [World.size_alloc, World.size_setCell, World.size_drew, ov_size] at hz))); (try simp only []); refine hK _ _ ?_ (fun hS2 => ?_); (focus ((repeat' (first | (with_reducible exact Below.refl _ _) | (with_reducible assumption) | (with_reducible refine below_from_drew ?_) | (with_reducible refine Below.alloc ?_ ?_ _) | (with_reducible refine Below.drew ?_) | (with_reducible refine below_drewN ?_ _) | (with_reducible refine Below.setCell ?_ ?_ _) | (with_reducible refine below_via ?_ (by assumption) ?_) | (with_reducible refine below_ov ?_ ?_ _ _) | go_size)); done)); clear hK K hS; have hS := hS2; clear hS2; (try clear hb); try simp only [Act.put, List.setIfInBounds_toArray, List.set_cons_zero, List.set_cons_succ])
    (refine wpG_make rfl (fun K hK => ?_); go_simp; (first | (go_at_call 54; (with_reducible refine (HATn.out _ (by (repeat' (first | (with_reducible exact Below.refl _ _) | (with_reducible assumption) | (with_reducible refine below_from_drew ?_) | (with_reducible refine Below.alloc ?_ ?_ _) | (with_reducible refine Below.drew ?_) | (with_reducible refine below_drewN ?_ _) | (with_reducible refine Below.setCell ?_ ?_ _) | (with_reducible refine below_via ?_ (by assumption) ?_) | (with_reducible refine below_ov ?_ ?_ _ _) | go_size)))).mono ?_); rintro e w1 ⟨rfl, hb⟩; refine Exists.elim (after2 (w := w) (b0 := w.heap.size) (cs0 := ?_) (T0 := ?_) (b1 := w.heap.size + 1) (cs1 := ?_) (T1 := ?_) hb ?_ ?_ ?_) ?_; rotate_left 4; (focus ((repeat' (first | (with_reducible exact Below.refl _ _) | (with_reducible assumption) | (with_reducible refine below_from_drew ?_) | (with_reducible refine Below.alloc ?_ ?_ _) | (with_reducible refine Below.drew ?_) | (with_reducible refine below_drewN ?_ _) | (with_reducible refine Below.setCell ?_ ?_ _) | (with_reducible refine below_via ?_ (by assumption) ?_) | (with_reducible refine below_ov ?_ ?_ _ _) | go_size)); done)); (focus ((repeat' (first | (with_reducible refine has_drew ?_) | (with_reducible refine has_drewN ?_) | (with_reducible refine has_new ?_; (first | (with_reducible rfl) | omega | (simp; done) | (simp; omega))) | (with_reducible refine has_ov_same ?_; (first | (with_reducible rfl) | omega | (simp; done) | (simp; omega))) | (with_reducible refine has_alloc ?_) | (with_reducible refine has_ov_other ?_ ?_; (focus (first | (with_reducible rfl) | omega | (simp; done) | (simp; omega)))) | (with_reducible assumption))); done)); (focus ((repeat' (first | (with_reducible refine has_drew ?_) | (with_reducible refine has_drewN ?_) | (with_reducible refine has_new ?_; (first | (with_reducible rfl) | omega | (simp; done) | (simp; omega))) | (with_reducible refine has_ov_same ?_; (first | (with_reducible rfl) | omega | (simp; done) | (simp; omega))) | (with_reducible refine has_alloc ?_) | (with_reducible refine has_ov_other ?_ ?_; (focus (first | (with_reducible rfl) | omega | (simp; done) | (simp; omega)))) | (with_reducible assumption))); done)); rintro u1 ⟨rfl, hB, hz, z0, o0, z1, o1⟩; (try simp only [World.size_alloc, World.size_setCell, World.size_drew, ov_size] at hz)) | (go_at_call 54; (with_reducible refine (HATp.out _ (by (repeat' (first | (with_reducible exact Below.refl _ _) | (with_reducible assumption) | (with_reducible refine below_from_drew ?_) | (with_reducible refine Below.alloc ?_ ?_ _) | (with_reducible refine Below.drew ?_) | (with_reducible refine below_drewN ?_ _) | (with_reducible refine Below.setCell ?_ ?_ _) | (with_reducible refine below_via ?_ (by assumption) ?_) | (with_reducible refine below_ov ?_ ?_ _ _) | go_size)))).mono ?_); rintro e w1 ⟨rfl, hb⟩; refine Exists.elim (after2 (w := w) (b0 := w.heap.size) (cs0 := ?_) (T0 := ?_) (b1 := w.heap.size + 1) (cs1 := ?_) (T1 := ?_) hb ?_ ?_ ?_) ?_; rotate_left 4; (focus ((repeat' (first | (with_reducible exact Below.refl _ _) | (with_reducible assumption) | (with_reducible refine below_from_drew ?_) | (with_reducible refine Below.alloc ?_ ?_ _) | (with_reducible refine Below.drew ?_) | (with_reducible refine below_drewN ?_ _) | (with_reducible refine Below.setCell ?_ ?_ _) | (with_reducible refine below_via ?_ (by assumption) ?_) | (with_reducible refine below_ov ?_ ?_ _ _) | go_size)); done)); (focus ((repeat' (first | (with_reducible refine has_drew ?_) | (with_reducible refine has_drewN ?_) | (with_reducible refine has_new ?_; (first | (with_reducible rfl) | omega | (simp; done) | (simp; omega))) | (with_reducible refine has_ov_same ?_; (first | (with_reducible rfl) | omega | (simp; done) | (simp; omega))) | (with_reducible refine has_alloc ?_) | (with_reducible refine has_ov_other ?_ ?_; (focus (first | (with_reducible rfl) | omega | (simp; done) | (simp; omega)))) | (with_reducible assumption))); done)); (focus ((repeat' (first | (with_reducible refine has_drew ?_) | (with_reducible refine has_drewN ?_) | (with_reducible refine has_new ?_; (first | (with_reducible rfl) | omega | (simp; done) | (simp; omega))) | (with_reducible refine has_ov_same ?_; (first | (with_reducible rfl) | omega | (simp; done) | (simp; omega))) | (with_reducible refine has_alloc ?_) | (with_reducible refine has_ov_other ?_ ?_; (focus (first | (with_reducible rfl) | omega | (simp; done) | (simp; omega)))) | (with_reducible assumption))); done)); rintro u2 ⟨rfl, hB, hz, z0, o0, z1, o1⟩; (try simp only [World.size_alloc, World.size_setCell, World.size_drew, ov_size] at hz))); (try simp only []); refine hK _ _ ?_ (fun hS2 => ?_); (focus ((repeat' (first | (with_reducible exact Below.refl _ _) | (with_reducible assumption) | (with_reducible refine below_from_drew ?_) | (with_reducible refine Below.alloc ?_ ?_ _) | (with_reducible refine Below.drew ?_) | (with_reducible refine below_drewN ?_ _) | (with_reducible refine Below.setCell ?_ ?_ _) | (with_reducible refine below_via ?_ (by assumption) ?_) | (with_reducible refine below_ov ?_ ?_ _ _) | go_size)); done)); clear hK K hS; have hS := hS2; clear hS2; (try clear hb); try simp only [Act.put, List.setIfInBounds_toArray, List.set_cons_zero, List.set_cons_succ])
    (refine wpG_read (v := ?_) rfl (.inl ⟨by rfl, fun wx hbx => ?_⟩) ?_; rotate_left; (focus (obtain ⟨cx0, fx0, zx0⟩ := bk hbx (w.heap.size) (by first | omega | (simp; done) | (simp; omega)); obtain ⟨cx1, fx1, zx1⟩ := bk hbx (w.heap.size + 1) (by first | omega | (simp; done) | (simp; omega)); go_simp; (try go_bits); (try with_reducible rfl))); try simp only [Act.put, List.setIfInBounds_toArray, List.set_cons_zero, List.set_cons_succ])
    (refine wpG_read (v := ?_) rfl (.inl ⟨by rfl, fun wx hbx => ?_⟩) ?_; rotate_left; (focus (obtain ⟨cx0, fx0, zx0⟩ := bk hbx (w.heap.size) (by first | omega | (simp; done) | (simp; omega)); obtain ⟨cx1, fx1, zx1⟩ := bk hbx (w.heap.size + 1) (by first | omega | (simp; done) | (simp; omega)); go_simp; (try go_bits); (try with_reducible rfl))); try simp only [Act.put, List.setIfInBounds_toArray, List.set_cons_zero, List.set_cons_succ])
    refine wpG_nil ?_
    obtain ⟨w2, hw2⟩ : ∃ w2, w2 = ov (ov u2 w.heap.size #[.slice (some ⟨b, off, none⟩) l c, .int .i64 next] 28) (w.heap.size + 1) #[.slice none 0 0, .int .i64 0] 28 := ⟨_, rfl⟩
    have HH0 : Hid (Has w2 w.heap.size #[.slice (some ⟨b, off, none⟩) l c, .int .i64 next] 28) := Lib.hid (by rw [hw2]; (repeat' (first | (with_reducible refine has_drew ?_) | (with_reducible refine has_drewN ?_) | (with_reducible refine has_new ?_; (first | (with_reducible rfl) | omega | (simp; done) | (simp; omega))) | (with_reducible refine has_ov_same ?_; (first | (with_reducible rfl) | omega | (simp; done) | (simp; omega))) | (with_reducible refine has_alloc ?_) | (with_reducible refine has_ov_other ?_ ?_; (focus (first | (with_reducible rfl) | omega | (simp; done) | (simp; omega)))) | (with_reducible assumption))))
    have HH1 : Hid (Has w2 (w.heap.size + 1) #[.slice none 0 0, .int .i64 0] 28) := Lib.hid (by rw [hw2]; (repeat' (first | (with_reducible refine has_drew ?_) | (with_reducible refine has_drewN ?_) | (with_reducible refine has_new ?_; (first | (with_reducible rfl) | omega | (simp; done) | (simp; omega))) | (with_reducible refine has_ov_same ?_; (first | (with_reducible rfl) | omega | (simp; done) | (simp; omega))) | (with_reducible refine has_alloc ?_) | (with_reducible refine has_ov_other ?_ ?_; (focus (first | (with_reducible rfl) | omega | (simp; done) | (simp; omega)))) | (with_reducible assumption))))
    have HB2 : Hid (Below w.heap.size w w2) := Lib.hid (by rw [hw2]; (repeat' (first | (with_reducible exact Below.refl _ _) | (with_reducible assumption) | (with_reducible refine below_from_drew ?_) | (with_reducible refine Below.alloc ?_ ?_ _) | (with_reducible refine Below.drew ?_) | (with_reducible refine below_drewN ?_ _) | (with_reducible refine Below.setCell ?_ ?_ _) | (with_reducible refine below_via ?_ (by assumption) ?_) | (with_reducible refine below_ov ?_ ?_ _ _) | go_size)))
    rw [← hw2]
    clear hS hB hz z0 o0 z1 o1 hw2
    have hl0 := HH0.out.lt
    have g0 := has_cell HH0.out (o := 0) rfl
    have g1 := has_cell HH0.out (o := 1) rfl
    by_cases ca : ia < 0
    · have HFF := Lib.hid (HFN.out (.inl (HIN.out.1 ca)))
      have hH1 := HH1.out
      have hl1 := hH1.lt
      have HOV := Lib.hid (ov_self hH1)
      clear hH1
      rw [← HOV.out]
      go_wp2_with (refine bodyPost_ct (b := w.heap.size + 1) Try.results19 rfl rfl (has_ov_same (by first | exact hl1 | (simp; omega))) Try.underlying28 rfl rfl rfl rfl ?_)
      have hBB : Below w.heap.size w (ov w2 (w.heap.size + 1) #[.slice (some ⟨b, off, none⟩) l c, .int .i64 next] 28) := by have q := HB2.out; (repeat' (first | (with_reducible exact Below.refl _ _) | (with_reducible assumption) | (with_reducible refine below_from_drew ?_) | (with_reducible refine Below.alloc ?_ ?_ _) | (with_reducible refine Below.drew ?_) | (with_reducible refine below_drewN ?_ _) | (with_reducible refine Below.setCell ?_ ?_ _) | (with_reducible refine below_via ?_ (by assumption) ?_) | (with_reducible refine below_ov ?_ ?_ _ _) | go_size))
      exact .mk HFF.out rfl (HREF.out.below hBB) hBB
    · have ca1 : decide (ia < 0) = false := by simp; omega
      by_cases cb : ip < 0
      · have HFF := Lib.hid (HFN.out (.inr (HIP.out.1 cb)))
        clear ca
        have hH1 := HH1.out
        have hl1 := hH1.lt
        have HOV := Lib.hid (ov_self hH1)
        clear hH1
        rw [← HOV.out]
        go_wp2_with (refine bodyPost_ct (b := w.heap.size + 1) Try.results19 rfl rfl (has_ov_same (by first | exact hl1 | (simp; omega))) Try.underlying28 rfl rfl rfl rfl ?_)
        have hBB : Below w.heap.size w (ov w2 (w.heap.size + 1) #[.slice (some ⟨b, off, none⟩) l c, .int .i64 next] 28) := by have q := HB2.out; (repeat' (first | (with_reducible exact Below.refl _ _) | (with_reducible assumption) | (with_reducible refine below_from_drew ?_) | (with_reducible refine Below.alloc ?_ ?_ _) | (with_reducible refine Below.drew ?_) | (with_reducible refine below_drewN ?_ _) | (with_reducible refine Below.setCell ?_ ?_ _) | (with_reducible refine below_via ?_ (by assumption) ?_) | (with_reducible refine below_ov ?_ ?_ _ _) | go_size))
        exact .mk HFF.out rfl (HREF.out.below hBB) hBB
      · have cb1 : decide (ip < 0) = false := by simp; omega
        rcases hfn : findR n R with _ | ⟨A, d, C⟩
        · exact absurd (HIN.out.2 hfn) ca
        rcases hfp : findR par R with _ | ⟨X, e0, Y⟩
        · exact absurd (HIP.out.2 hfp) cb
        obtain rfl : ia = (A.length : Int) := by rw [← HIA.out]; exact atF_some hfn
        obtain rfl : ip = (X.length : Int) := by rw [← HIPP.out]; exact atF_some hfp
        obtain ⟨hR, _⟩ := findR_some hfn
        obtain ⟨hRp, _⟩ := findR_some hfp
        obtain ⟨A1, m, A2o, Bo, hRS, hIns, hBd, hSt⟩ := cut_sub HW.out hR HN0.out
        have hparR : par ∈ nums R := by rw [hRp]; simp [nums]
        have hpart : par ∈ nums ((n, d) :: subR d C) ↔ A.length ≤ X.length ∧ X.length < A.length + 1 + (subR d C).length := by
          have q := at_part (k := par) (e := e0) (X := X) (Y := Y) (A := A) (S := (n, d) :: subR d C) (B := Bo) (by rw [← hRS]; exact HW.out.nodup) (by rw [← hRS]; exact hRp)
          rw [List.length_cons, show A.length + ((subR d C).length + 1) = A.length + 1 + (subR d C).length by omega] at q
          exact q
        have HEN := Lib.hid (fun u (hu : Below w.heap.size w u) => end_any (some ⟨b, off, none⟩) l c next n d R A C u HL.out (by omega) (HRA.out.below hu) hR)
        have hlR : l = A.length + 1 + (subR d C).length + Bo.length := by rw [← HL.out, hRS]; simp; omega
        have hlX : X.length < l := by rw [← HL.out, hRp]; simp
        have HR := Lib.hid hR; have HRS := Lib.hid hRS; have HINS := Lib.hid hIns; have HBD := Lib.hid hBd; have HST := Lib.hid hSt; have HPR := Lib.hid hparR; have HPT := Lib.hid hpart; have HLR := Lib.hid hlR; have HFNn := Lib.hid hfn; have HFP := Lib.hid hfp
        clear hfn hfp hR hRp hRS hIns hBd hSt hparR hpart hlR ca cb
        generalize hAl : A.length = i at *
        generalize hXl : X.length = j at *
        have HAL := Lib.hid hAl; have HXL := Lib.hid hXl
        clear hAl hXl
        obtain ⟨q, hq⟩ : ∃ q, (subR d C).length = q := ⟨_, rfl⟩
        obtain ⟨e, he⟩ : ∃ e, i + 1 + q = e := ⟨_, rfl⟩
        rw [hq, he] at HEN HPT HLR
        have HQ := Lib.hid hq; have HE := Lib.hid he
        clear hq
        go_wp2_with fail
        refine (HEN.out _ HB2.out).mono ?_
        rintro e1 w3 ⟨rfl, hb⟩
        have HB3 := Lib.hid (below_via HB2.out hb HB2.out.size)
        have HH30 := Lib.hid (has_below hb HH0.out); have HH31 := Lib.hid (has_below hb HH1.out)
        clear hb g0 g1 hl0
        have hl0 := HH30.out.lt
        have g0 := has_cell HH30.out (o := 0) rfl
        have g1 := has_cell HH30.out (o := 1) rfl
        by_cases hin : par ∈ nums ((n, d) :: subR d C)
        · obtain ⟨c1, c2⟩ := HPT.out.1 hin
          have c1' : (i : Int) ≤ (j : Int) := by omega
          have c2' : (j : Int) < (e : Int) := by omega
          have hF : moveT R n par at_ = (R, 6) := by
            unfold moveT; rw [if_neg HN0.out, HFNn.out]; show (if _ then _ else _) = _
            rw [if_neg (by simp [HPR.out]), if_pos hin]
          have HFF := Lib.hid hF
          clear hF hin
          have hH1 := HH31.out
          have hl1 := hH1.lt
          have HOV := Lib.hid (ov_self hH1)
          clear hH1
          rw [← HOV.out]
          go_wp2_with (refine bodyPost_ct (b := w.heap.size + 1) Try.results19 rfl rfl (has_ov_same (by first | exact hl1 | (simp; omega))) Try.underlying28 rfl rfl rfl rfl ?_)
          have hBB : Below w.heap.size w (ov w3 (w.heap.size + 1) #[.slice (some ⟨b, off, none⟩) l c, .int .i64 next] 28) := by have q := HB3.out; (repeat' (first | (with_reducible exact Below.refl _ _) | (with_reducible assumption) | (with_reducible refine below_from_drew ?_) | (with_reducible refine Below.alloc ?_ ?_ _) | (with_reducible refine Below.drew ?_) | (with_reducible refine below_drewN ?_ _) | (with_reducible refine Below.setCell ?_ ?_ _) | (with_reducible refine below_via ?_ (by assumption) ?_) | (with_reducible refine below_ov ?_ ?_ _ _) | go_size))
          exact .mk HFF.out rfl (HREF.out.below hBB) hBB
        · have HNP := Lib.hid hin
          have hor : j < i ∨ e ≤ j := by
            rcases Nat.lt_or_ge j i with c | c
            · exact .inl c
            · exact .inr (Nat.le_of_not_lt fun c2 => hin (HPT.out.2 ⟨c, c2⟩))
          clear hin
          go_upto_region 7 with fail
          go_cut [45] (fun s wx => s = .bool false ∧ wx = w3)
          case first =>
            rcases hor with c | c
            · have c1 : decide ((i : Int) ≤ (j : Int)) = false := by simp; omega
              have c2 : decide (i ≤ j) = false := by simp; omega
              clear c
              go_wp2_with fail
              go_meet
              exact ⟨rfl, rfl⟩
            · have c0 : (i : Int) ≤ (j : Int) := by omega
              have c0' : i ≤ j := by omega
              have c1 : decide ((j : Int) < (e : Int)) = false := by simp; omega
              have c2 : decide (j < e) = false := by simp; omega
              clear c
              go_wp2_with fail
              go_meet
              exact ⟨rfl, rfl⟩
          case rest =>
            obtain ⟨rfl, hwc⟩ := hcut
            obtain rfl : w3 = wc := hwc.symm
            obtain ⟨i0, hin, hz0, hz1, hz2⟩ := info_parts infoRow
            have hilt : i < l := by have := HLR.out; omega
            have hci : ¬ c = i := by omega
            have hel : e ≤ l := by have := HLR.out; omega
            have hil' : (i : Int) ≤ (e : Int) := by omega
            have hec' : (e : Int) ≤ (c : Int) := by omega
            have hel' : (e : Int) ≤ (l : Int) := by omega
            have hi0 : (0 : Int) ≤ (i : Int) := by omega
            have hsub : (e : Int) - i = ((e - i : Nat) : Int) := by omega
            have hsub2 : (c : Int) - i = ((c - i : Nat) : Int) := by omega
            have hown0 : (w3.alloc (.cells #[] 133)).ownsRow w3.heap.size 133 2 (.slice (some ⟨w3.heap.size, 0, none⟩) 0 0) 0 [] := ⟨rfl, .inr ⟨w3.heap.size, 0, #[], rfl, Nat.le_refl _, has_new (w := w3) rfl, Nat.le_refl _, by unfold maxLen; omega, rfl, rfl⟩⟩
            have HOWN0 := Lib.hid hown0
            clear hown0 hor
            go_wp2_with (at_builtin; refine wpList_append_own _ rfl _ _ 26 rfl w3.heap.size 133 i0 (.agg #[.int .i64 0, .int .i64 0]) 2 16 Try.underlying26 hin hz0 hz1 hz2 rfl (by decide) _ _ _ rfl HOWN0.out ⟨b, off + i * 2, none⟩ (e - i) (c - i) (rowVals ((n, d) :: subR d C)) rfl ?p0 ?p1 ?p2 ?p3 ?p4 ?p5 ?_)
            case p0 => rw [rowVals_len, List.length_cons, HQ.out]; have := HE.out; omega
            case p1 =>
              intro t u ht
              rw [cell_alloc_old (show b < w3.heap.size from Nat.lt_of_lt_of_le hb HB3.out.size), Nat.add_assoc]
              refine (HB3.out.cell (p := ⟨b, off + (i * 2 + t), none⟩) hb).trans (HRV.out _ u ?_)
              rw [HRS.out, rowVals_append, rowVals_append, List.append_assoc, List.getElem?_append_right (by rw [rowVals_len, HAL.out]; omega), rowVals_len, HAL.out, show i * 2 + t - i * 2 = t by omega, List.getElem?_append_left (List.getElem?_eq_some_iff.1 ht).1]
              exact ht
            case p2 => exact rowVals_one _
            case p3 => unfold maxLen; omega
            case p4 => omega
            intro v4 w4 hown4 hgrow4 hnil4
            clear hnil4
            have hSl : ((n, d) :: subR d C).length = e - i := by rw [List.length_cons, HQ.out]; have := HE.out; omega
            obtain ⟨g, cap4, cur, rfl, hg4, hHg, hcap4, hpc⟩ : ∃ g cap cur, v4 = .slice (some ⟨g, 0, none⟩) (e - i) cap ∧ w3.heap.size ≤ g ∧ Has w4 g cur 133 ∧ e - i ≤ cap ∧ PartC cur ((n, d) :: subR d C) 0 0 := by
              rcases hown4.2 with ⟨_, h0⟩ | ⟨g, cap, cur, h1, h2, h3, h4, _, _, h5⟩
              · have := HE.out; omega
              · refine ⟨g, cap, cur, h1, h2, h3, h4, partC_new ?_⟩
                rw [hSl]; simpa using h5
            have hB4 : Below w.heap.size w w4 := Below.grown (by have q := HB3.out; (repeat' (first | (with_reducible exact Below.refl _ _) | (with_reducible assumption) | (with_reducible refine below_from_drew ?_) | (with_reducible refine Below.alloc ?_ ?_ _) | (with_reducible refine Below.drew ?_) | (with_reducible refine below_drewN ?_ _) | (with_reducible refine Below.setCell ?_ ?_ _) | (with_reducible refine below_via ?_ (by assumption) ?_) | (with_reducible refine below_ov ?_ ?_ _ _) | go_size))) hgrow4 (by simp; omega) (fun bb h => by simp [Value.ownBlock] at h; omega)
            have hH40 := has_grown hgrow4 (has_alloc HH30.out) (by simp [Value.ownBlock]; omega)
            have hH41 := has_grown hgrow4 (has_alloc HH31.out) (by simp [Value.ownBlock]; have := HH31.out.lt; omega)
            have HB4 := Lib.hid hB4; have HH40 := Lib.hid hH40; have HH41 := Lib.hid hH41; have HSL := Lib.hid hSl; have HPC := Lib.hid hpc; have HG := Lib.hid hHg
            clear hB4 hH40 hH41 hSl hpc hHg hown4 hgrow4 g0 g1 hl0 HOWN0 hin hz0 hz1 hz2
            have hl0 := HH40.out.lt
            have g0 := has_cell HH40.out (o := 0) rfl
            have g1 := has_cell HH40.out (o := 1) rfl
            have hdr : dropT R n = (A ++ Bo, 0) := by unfold dropT; rw [if_neg HN0.out, HFNn.out]; show (A ++ C.drop (subR d C).length, (0 : Int)) = _; rw [HBD.out]
            have hD := rdrop_any _ R next n w4 (HREF.out.below HB4.out) HW.out (by rw [HL.out]; omega)
            rw [hdr] at hD
            have HD := Lib.hid hD
            clear hD hdr
            go_wp2_with fail
            refine HD.out.mono ?_
            rintro e2 w5 ⟨v5, rfl, hR5, hF5, hB5⟩
            obtain ⟨b5, off5, c5, rfl, hlc5, hb5, hc5⟩ := hR5
            have hf5 := hF5 (by first | rfl | trivial) _ _ _ _ _ _ rfl rfl
            have HB5 := Lib.hid (below_via HB4.out hB5 HB4.out.size)
            have HH50 := Lib.hid (has_below hB5 HH40.out); have HH51 := Lib.hid (has_below hB5 HH41.out); have HG5 := Lib.hid (has_below hB5 HG.out)
            have hgl := HG.out.lt
            have hl51 := HH51.out.lt
            obtain ⟨l5, hl5⟩ : ∃ l5, (A ++ Bo).length = l5 := ⟨_, rfl⟩
            rw [hl5] at hlc5
            have HL5 := Lib.hid hl5; have HC5 := Lib.hid hc5
            rw [hl5]
            clear hB5 hF5 hc5 hl5 g0 g1 hl0
            have hl0 := HH50.out.lt
            have g0 := has_cell HH50.out (o := 0) rfl
            have g1 := has_cell HH50.out (o := 1) rfl
            go_wp2_with fail
            have hwf5 : WfR (A ++ Bo) next := WfR.rem HINS.out (by rw [← HRS.out]; exact HW.out)
            obtain ⟨A', d', C', hf2⟩ : ∃ A' d' C', findR par (A ++ Bo) = some (A', d', C') := by
              cases hq : findR par (A ++ Bo) with
              | some y => exact ⟨y.1, y.2.1, y.2.2, rfl⟩
              | none =>
                have q1 := findR_none.1 hq
                have q2 := HPR.out
                rw [HRS.out, nums_append, nums_append, List.mem_append, List.mem_append] at q2
                rw [nums_append, List.mem_append, not_or] at q1
                rcases q2 with (q2 | q2) | q2
                · exact absurd q2 q1.1
                · exact absurd q2 HNP.out
                · exact absurd q2 q1.2
            have hspl := (findR_some hf2).1
            obtain ⟨hd0, hd1⟩ := rdepth_le HW.out HR.out
            obtain ⟨hd0', hd1'⟩ := rdepth_le hwf5 hspl
            have hst5 : Steps ((par, d') :: C') := by have q1 := hwf5.steps; rw [hspl] at q1; exact q1.right
            have hra5 : RowsAt w5 (some ⟨b5, off5, none⟩) (A ++ Bo) := fun _ => ⟨b5, off5, rfl, hb5, HC5.out⟩
            have hl5m : l5 ≤ 50000 := by have q1 := HL5.out; have q2 := HL.out; rw [HRS.out] at q2; simp at q1 q2; omega
            have hlen5 : l5 = A'.length + (C'.length + 1) := by rw [← HL5.out, hspl]; simp
            have hmv : moveT R n par at_ = if at_ < 0 ∨ ((kidsR d' C').length : Int) < at_ then (R, 2) else if 64 < d' + 1 + maxDeep d ((n, d) :: subR d C) then (R, 7)
              else (A' ++ (par, d') :: C'.take (cutR d' at_.toNat C') ++ shiftR (d' + 1 - d) ((n, d) :: subR d C) ++ C'.drop (cutR d' at_.toNat C'), 0) := by
              unfold moveT; rw [if_neg HN0.out, HFNn.out]; show (if _ then _ else _) = _
              rw [if_neg (by simp [HPR.out]), if_neg (show ¬ par ∈ nums ((n, d) :: subR d C) from HNP.out), ← HBD.out, hf2]
            have hcut : A' ++ (par, d') :: C'.take (cutR d' at_.toNat C') ++ shiftR (d' + 1 - d) ((n, d) :: subR d C) ++ C'.drop (cutR d' at_.toNat C') = (A ++ Bo).take (A'.length + 1 + cutR d' at_.toNat C') ++ shiftR (d' + 1 - d) ((n, d) :: subR d C) ++ (A ++ Bo).drop (A'.length + 1 + cutR d' at_.toNat C') := by
              have e1 : (A ++ Bo).take (A'.length + 1 + cutR d' at_.toNat C') = A' ++ (par, d') :: C'.take (cutR d' at_.toNat C') := by
                rw [hspl, List.take_append, List.take_of_length_le (by omega), show A'.length + 1 + cutR d' at_.toNat C' - A'.length = cutR d' at_.toNat C' + 1 by omega, List.take_succ_cons]
              have e2 : (A ++ Bo).drop (A'.length + 1 + cutR d' at_.toNat C') = C'.drop (cutR d' at_.toNat C') := by
                rw [hspl, List.drop_append, List.drop_eq_nil_of_le (by omega), List.nil_append, show A'.length + 1 + cutR d' at_.toNat C' - A'.length = cutR d' at_.toNat C' + 1 by omega, List.drop_succ_cons]
              rw [e1, e2]
            rw [hcut] at hmv
            have hcs := cutR_spec d' at_.toNat C'
            have HAT5 : Hid (∀ u, RowsAt u (some ⟨b5, off5, none⟩) (A ++ Bo) → Calls Try.prog 54 #[.agg #[.slice (some ⟨b5, off5, none⟩) l5 c5, .int .i64 next], .int .i64 par] u fun e w' => e = .returned (.int .i64 (A'.length : Int)) ∧ Below u.heap.size u w') := Lib.hid (fun u hu => by have q1 := at_any (some ⟨b5, off5, none⟩) l5 c5 next par (A ++ Bo) u HL5.out (by omega) hu; rw [atF_some hf2] at q1; exact q1)
            have HK5 := Lib.hid (fun u (hu : RowsAt u (some ⟨b5, off5, none⟩) (A ++ Bo)) => rkids_any (some ⟨b5, off5, none⟩) l5 c5 next par d' (A ++ Bo) A' C' u HL5.out (by omega) hu hspl hst5)
            have HP5 := Lib.hid (fun u (hu : RowsAt u (some ⟨b5, off5, none⟩) (A ++ Bo)) k (hk : k ≤ (kidsR d' C').length) => rplace_any (some ⟨b5, off5, none⟩) l5 c5 k next par d' (A ++ Bo) A' C' u HL5.out (by omega) hu hspl hst5 hk)
            have HWI := Lib.hid (fun u (hu : RowsAt u (some ⟨b5, off5, none⟩) (A ++ Bo)) q (hq : q ≤ l5) sa (hS : RowsAt u sa (shiftR (d' + 1 - d) ((n, d) :: subR d C))) => by
              obtain ⟨bb, oo, h1, h2, h3⟩ := hu (by have := HL5.out; omega)
              cases h1
              exact with_any b5 off5 l5 c5 q (e - i) cap4 sa next (A ++ Bo) (shiftR (d' + 1 - d) ((n, d) :: subR d C)) u HL5.out (by omega) (by omega) hlc5 h2 h3 hq (by rw [← HSL.out]; simp [shiftR]) (by have := HE.out; omega) (by omega) hS)
            have hqd : w5.cell? ⟨b5, off5 + A'.length * 2 + 1, none⟩ = some (.int .i64 d') := by
              have q1 := (HC5.out A'.length (by have := HL5.out; omega)).2
              have q2 := getD_split (A := A') (C := C') (x := (par, d'))
              rw [← hspl] at q2
              rw [q2] at q1; exact q1
            have HMV := Lib.hid hmv; have HCS := Lib.hid hcs; have HLEN := Lib.hid hlen5; have HQD := Lib.hid hqd; have HRA5 := Lib.hid hra5
            clear hwf5 hf2 hspl hst5 hra5 hlen5 hmv hcut hcs hqd
            generalize hkl : (kidsR d' C').length = kl at *
            generalize hjj : A'.length = jp at *
            have hjl : jp < l5 := by have := HLEN.out; omega
            go_wp2_with fail
            have hra6 := HRA5.out.below (by (repeat' (first | (with_reducible exact Below.refl _ _) | (with_reducible assumption) | (with_reducible refine below_from_drew ?_) | (with_reducible refine Below.alloc ?_ ?_ _) | (with_reducible refine Below.drew ?_) | (with_reducible refine below_drewN ?_ _) | (with_reducible refine Below.setCell ?_ ?_ _) | (with_reducible refine below_via ?_ (by assumption) ?_) | (with_reducible refine below_ov ?_ ?_ _ _) | go_size)) : Below w5.heap.size w5 (w5.alloc (.cells #[.slice (some ⟨b5, off5, none⟩) l5 c5, .int .i64 next] 28)))
            refine (HAT5.out _ hra6).mono ?_
            rintro e3 w6 ⟨rfl, hb6⟩
            have HB6 := Lib.hid (below_via (by have q1 := HB5.out; (repeat' (first | (with_reducible exact Below.refl _ _) | (with_reducible assumption) | (with_reducible refine below_from_drew ?_) | (with_reducible refine Below.alloc ?_ ?_ _) | (with_reducible refine Below.drew ?_) | (with_reducible refine below_drewN ?_ _) | (with_reducible refine Below.setCell ?_ ?_ _) | (with_reducible refine below_via ?_ (by assumption) ?_) | (with_reducible refine below_ov ?_ ?_ _ _) | go_size)) : Below w.heap.size w (w5.alloc (.cells #[.slice (some ⟨b5, off5, none⟩) l5 c5, .int .i64 next] 28))) hb6 (by simp; have := HB5.out.size; omega))
            have HH60 := Lib.hid (has_below hb6 (has_alloc HH50.out)); have HH61 := Lib.hid (has_below hb6 (has_alloc HH51.out)); have HG6 := Lib.hid (has_below hb6 (has_alloc HG5.out))
            have HH62 : Hid (Has w6 w5.heap.size #[.slice (some ⟨b5, off5, none⟩) l5 c5, .int .i64 next] 28) := Lib.hid (has_below hb6 (has_new rfl))
            have HB56 : Hid (Below w5.heap.size w5 w6) := Lib.hid (below_via (by (repeat' (first | (with_reducible exact Below.refl _ _) | (with_reducible assumption) | (with_reducible refine below_from_drew ?_) | (with_reducible refine Below.alloc ?_ ?_ _) | (with_reducible refine Below.drew ?_) | (with_reducible refine below_drewN ?_ _) | (with_reducible refine Below.setCell ?_ ?_ _) | (with_reducible refine below_via ?_ (by assumption) ?_) | (with_reducible refine below_ov ?_ ?_ _ _) | go_size)) : Below w5.heap.size w5 (w5.alloc (.cells #[.slice (some ⟨b5, off5, none⟩) l5 c5, .int .i64 next] 28))) hb6 (by simp))
            clear hb6 g0 g1 hl0
            have hl0 := HH60.out.lt
            have g0 := has_cell HH60.out (o := 0) rfl
            have g1 := has_cell HH60.out (o := 1) rfl
            have hl2 := HH62.out.lt
            have f0 := has_cell HH62.out (o := 0) rfl
            have f1 := has_cell HH62.out (o := 1) rfl
            by_cases cc : at_ < 0
            · have HFF : Hid (moveT R n par at_ = (R, 2)) := HMV.out.trans (if_pos (.inl cc))
              have hH1 := HH61.out
              have hl1 := hH1.lt
              have HOV := Lib.hid (ov_self hH1)
              clear hH1
              rw [← HOV.out]
              go_wp2_with (refine bodyPost_ct (b := w.heap.size + 1) Try.results19 rfl rfl (has_ov_same (by first | exact hl1 | (simp; omega))) Try.underlying28 rfl rfl rfl rfl ?_)
              have hBB : Below w.heap.size w (ov w6 (w.heap.size + 1) #[.slice (some ⟨b, off, none⟩) l c, .int .i64 next] 28) := by have q := HB6.out; (repeat' (first | (with_reducible exact Below.refl _ _) | (with_reducible assumption) | (with_reducible refine below_from_drew ?_) | (with_reducible refine Below.alloc ?_ ?_ _) | (with_reducible refine Below.drew ?_) | (with_reducible refine below_drewN ?_ _) | (with_reducible refine Below.setCell ?_ ?_ _) | (with_reducible refine below_via ?_ (by assumption) ?_) | (with_reducible refine below_ov ?_ ?_ _ _) | go_size))
              exact .mk HFF.out rfl (HREF.out.below hBB) hBB
            · have cc1 : decide (at_ < 0) = false := by simp; omega
              have cc2 : 0 ≤ at_ := by omega
              clear cc
              go_wp2_with fail
              have hra7 := HRA5.out.below HB56.out
              refine (HK5.out _ hra7).mono ?_
              rintro e4 w7 ⟨al, ca, rfl, _, hb7⟩
              have HB7 := Lib.hid (below_via HB6.out hb7 HB6.out.size)
              have HB57 := Lib.hid (below_via HB56.out hb7 HB56.out.size)
              have HH70 := Lib.hid (has_below hb7 HH60.out); have HH71 := Lib.hid (has_below hb7 HH61.out); have HH72 := Lib.hid (has_below hb7 HH62.out); have HG7 := Lib.hid (has_below hb7 HG6.out)
              clear hb7 g0 g1 hl0 hl2 f0 f1
              have hl0 := HH70.out.lt
              have g0 := has_cell HH70.out (o := 0) rfl
              have g1 := has_cell HH70.out (o := 1) rfl
              have hl2 := HH72.out.lt
              have f0 := has_cell HH72.out (o := 0) rfl
              have f1 := has_cell HH72.out (o := 1) rfl
              rcases Int.lt_or_le (kl : Int) at_ with c3 | c3
              · have HFF : Hid (moveT R n par at_ = (R, 2)) := HMV.out.trans (if_pos (.inr c3))
                have hH1 := HH71.out
                have hl1 := hH1.lt
                have HOV := Lib.hid (ov_self hH1)
                clear hH1
                rw [← HOV.out]
                go_wp2_with (refine bodyPost_ct (b := w.heap.size + 1) Try.results19 rfl rfl (has_ov_same (by first | exact hl1 | (simp; omega))) Try.underlying28 rfl rfl rfl rfl ?_)
                have hBB : Below w.heap.size w (ov w7 (w.heap.size + 1) #[.slice (some ⟨b, off, none⟩) l c, .int .i64 next] 28) := by have q := HB7.out; (repeat' (first | (with_reducible exact Below.refl _ _) | (with_reducible assumption) | (with_reducible refine below_from_drew ?_) | (with_reducible refine Below.alloc ?_ ?_ _) | (with_reducible refine Below.drew ?_) | (with_reducible refine below_drewN ?_ _) | (with_reducible refine Below.setCell ?_ ?_ _) | (with_reducible refine below_via ?_ (by assumption) ?_) | (with_reducible refine below_ov ?_ ?_ _ _) | go_size))
                exact .mk HFF.out rfl (HREF.out.below hBB) hBB
              · have c4 : decide ((kl : Int) < at_) = false := by simp; omega
                have HM2 := Lib.hid (HMV.out.trans (if_neg (by omega)))
                have qd := (HB57.out.cell (p := ⟨b5, off5 + jp * 2 + 1, none⟩) hb5).trans HQD.out
                have qg : w7.cell? ⟨g, 1, none⟩ = some (.int .i64 d) := by
                  rw [HG7.out.cells]
                  have q1 := (HPC.out 0 (by simp)).2
                  simpa using q1
                have hg7 := HG7.out.lt
                have hb57 : b5 < w7.heap.size := Nat.lt_of_lt_of_le hb5 HB57.out.size
                have hei : 0 < e - i := by have := HE.out; omega
                have hjl' : (jp : Int) < (l5 : Int) := by omega
                have hz : d' + 1 - d = d' + 1 - d := rfl
                clear hz
                go_wp2_with fail
                refine region_ord [(0, 0), (1, 0), (2, 0), (3, 0), (4, 0), (5, 0), (6, 0), (7, 0), (8, 0), (9, 0), (10, 0), (11, 0), (12, 0)] (by kernel_rfl) (by kernel_rfl) (fun _ _ d _ _ h => by cases d <;> exact h) (fun hS => ?_)
                (refine wpG_read (v := ?_) rfl (.inl ⟨by rfl, fun wx hbx => ?_⟩) ?_; rotate_left; (focus (obtain ⟨cx0, fx0, zx0⟩ := bk hbx (w5.heap.size) (by first | omega | (simp; done) | (simp; omega)); obtain ⟨cx1, fx1, zx1⟩ := bk hbx (b5) (by first | omega | (simp; done) | (simp; omega)); obtain ⟨cx2, fx2, zx2⟩ := bk hbx (g) (by first | omega | (simp; done) | (simp; omega)); go_simp; (try go_bits); (try with_reducible rfl))); try simp only [Act.put, List.setIfInBounds_toArray, List.set_cons_zero, List.set_cons_succ])
                (refine wpG_read (v := ?_) rfl (.inl ⟨by rfl, fun wx hbx => ?_⟩) ?_; rotate_left; (focus (obtain ⟨cx0, fx0, zx0⟩ := bk hbx (w5.heap.size) (by first | omega | (simp; done) | (simp; omega)); obtain ⟨cx1, fx1, zx1⟩ := bk hbx (b5) (by first | omega | (simp; done) | (simp; omega)); obtain ⟨cx2, fx2, zx2⟩ := bk hbx (g) (by first | omega | (simp; done) | (simp; omega)); go_simp; (try go_bits); (try with_reducible rfl))); try simp only [Act.put, List.setIfInBounds_toArray, List.set_cons_zero, List.set_cons_succ])
                (refine wpG_read (v := ?_) rfl (.inl ⟨by rfl, fun wx hbx => ?_⟩) ?_; rotate_left; (focus (obtain ⟨cx0, fx0, zx0⟩ := bk hbx (w5.heap.size) (by first | omega | (simp; done) | (simp; omega)); obtain ⟨cx1, fx1, zx1⟩ := bk hbx (b5) (by first | omega | (simp; done) | (simp; omega)); obtain ⟨cx2, fx2, zx2⟩ := bk hbx (g) (by first | omega | (simp; done) | (simp; omega)); go_simp; (try go_bits); (try with_reducible rfl))); try simp only [Act.put, List.setIfInBounds_toArray, List.set_cons_zero, List.set_cons_succ])
                (refine wpG_read (v := ?_) rfl (.inl ⟨by rfl, fun wx hbx => ?_⟩) ?_; rotate_left; (focus (obtain ⟨cx0, fx0, zx0⟩ := bk hbx (w5.heap.size) (by first | omega | (simp; done) | (simp; omega)); obtain ⟨cx1, fx1, zx1⟩ := bk hbx (b5) (by first | omega | (simp; done) | (simp; omega)); obtain ⟨cx2, fx2, zx2⟩ := bk hbx (g) (by first | omega | (simp; done) | (simp; omega)); go_simp; (try go_bits); (try with_reducible rfl))); try simp only [Act.put, List.setIfInBounds_toArray, List.set_cons_zero, List.set_cons_succ])
                (refine wpG_read (v := ?_) rfl (.inl ⟨by rfl, fun wx hbx => ?_⟩) ?_; rotate_left; (focus (obtain ⟨cx0, fx0, zx0⟩ := bk hbx (w5.heap.size) (by first | omega | (simp; done) | (simp; omega)); obtain ⟨cx1, fx1, zx1⟩ := bk hbx (b5) (by first | omega | (simp; done) | (simp; omega)); obtain ⟨cx2, fx2, zx2⟩ := bk hbx (g) (by first | omega | (simp; done) | (simp; omega)); go_simp; (try go_bits); (try with_reducible rfl))); try simp only [Act.put, List.setIfInBounds_toArray, List.set_cons_zero, List.set_cons_succ])
                (refine wpG_read (v := ?_) rfl (.inl ⟨by rfl, fun wx hbx => ?_⟩) ?_; rotate_left; (focus (obtain ⟨cx0, fx0, zx0⟩ := bk hbx (w5.heap.size) (by first | omega | (simp; done) | (simp; omega)); obtain ⟨cx1, fx1, zx1⟩ := bk hbx (b5) (by first | omega | (simp; done) | (simp; omega)); obtain ⟨cx2, fx2, zx2⟩ := bk hbx (g) (by first | omega | (simp; done) | (simp; omega)); go_simp; (try go_bits); (try with_reducible rfl))); try simp only [Act.put, List.setIfInBounds_toArray, List.set_cons_zero, List.set_cons_succ])
                (refine wpG_read (v := ?_) rfl (.inl ⟨by rfl, fun wx hbx => ?_⟩) ?_; rotate_left; (focus (obtain ⟨cx0, fx0, zx0⟩ := bk hbx (w5.heap.size) (by first | omega | (simp; done) | (simp; omega)); obtain ⟨cx1, fx1, zx1⟩ := bk hbx (b5) (by first | omega | (simp; done) | (simp; omega)); obtain ⟨cx2, fx2, zx2⟩ := bk hbx (g) (by first | omega | (simp; done) | (simp; omega)); go_simp; (try go_bits); (try with_reducible rfl))); try simp only [Act.put, List.setIfInBounds_toArray, List.set_cons_zero, List.set_cons_succ])
                (refine wpG_read (v := ?_) rfl (.inl ⟨by rfl, fun wx hbx => ?_⟩) ?_; rotate_left; (focus (obtain ⟨cx0, fx0, zx0⟩ := bk hbx (w5.heap.size) (by first | omega | (simp; done) | (simp; omega)); obtain ⟨cx1, fx1, zx1⟩ := bk hbx (b5) (by first | omega | (simp; done) | (simp; omega)); obtain ⟨cx2, fx2, zx2⟩ := bk hbx (g) (by first | omega | (simp; done) | (simp; omega)); go_simp; (try go_bits); (try with_reducible rfl))); try simp only [Act.put, List.setIfInBounds_toArray, List.set_cons_zero, List.set_cons_succ])
                (refine wpG_read (v := ?_) rfl (.inl ⟨by rfl, fun wx hbx => ?_⟩) ?_; rotate_left; (focus (obtain ⟨cx0, fx0, zx0⟩ := bk hbx (w5.heap.size) (by first | omega | (simp; done) | (simp; omega)); obtain ⟨cx1, fx1, zx1⟩ := bk hbx (b5) (by first | omega | (simp; done) | (simp; omega)); obtain ⟨cx2, fx2, zx2⟩ := bk hbx (g) (by first | omega | (simp; done) | (simp; omega)); go_simp; (try go_bits); (try with_reducible rfl))); try simp only [Act.put, List.setIfInBounds_toArray, List.set_cons_zero, List.set_cons_succ])
                (refine wpG_read (v := ?_) rfl (.inl ⟨by rfl, fun wx hbx => ?_⟩) ?_; rotate_left; (focus (obtain ⟨cx0, fx0, zx0⟩ := bk hbx (w5.heap.size) (by first | omega | (simp; done) | (simp; omega)); obtain ⟨cx1, fx1, zx1⟩ := bk hbx (b5) (by first | omega | (simp; done) | (simp; omega)); obtain ⟨cx2, fx2, zx2⟩ := bk hbx (g) (by first | omega | (simp; done) | (simp; omega)); go_simp; (try go_bits); (try with_reducible rfl))); try simp only [Act.put, List.setIfInBounds_toArray, List.set_cons_zero, List.set_cons_succ])
                (refine wpG_read (v := ?_) rfl (.inl ⟨by rfl, fun wx hbx => ?_⟩) ?_; rotate_left; (focus (obtain ⟨cx0, fx0, zx0⟩ := bk hbx (w5.heap.size) (by first | omega | (simp; done) | (simp; omega)); obtain ⟨cx1, fx1, zx1⟩ := bk hbx (b5) (by first | omega | (simp; done) | (simp; omega)); obtain ⟨cx2, fx2, zx2⟩ := bk hbx (g) (by first | omega | (simp; done) | (simp; omega)); go_simp; (try go_bits); (try with_reducible rfl))); try simp only [Act.put, List.setIfInBounds_toArray, List.set_cons_zero, List.set_cons_succ])
                (refine wpG_read (v := ?_) rfl (.inl ⟨by rfl, fun wx hbx => ?_⟩) ?_; rotate_left; (focus (obtain ⟨cx0, fx0, zx0⟩ := bk hbx (w5.heap.size) (by first | omega | (simp; done) | (simp; omega)); obtain ⟨cx1, fx1, zx1⟩ := bk hbx (b5) (by first | omega | (simp; done) | (simp; omega)); obtain ⟨cx2, fx2, zx2⟩ := bk hbx (g) (by first | omega | (simp; done) | (simp; omega)); go_simp; (try go_bits); (try with_reducible rfl))); try simp only [Act.put, List.setIfInBounds_toArray, List.set_cons_zero, List.set_cons_succ])
                (refine wpG_read (v := ?_) rfl (.inl ⟨by rfl, fun wx hbx => ?_⟩) ?_; rotate_left; (focus (obtain ⟨cx0, fx0, zx0⟩ := bk hbx (w5.heap.size) (by first | omega | (simp; done) | (simp; omega)); obtain ⟨cx1, fx1, zx1⟩ := bk hbx (b5) (by first | omega | (simp; done) | (simp; omega)); obtain ⟨cx2, fx2, zx2⟩ := bk hbx (g) (by first | omega | (simp; done) | (simp; omega)); go_simp; (try go_bits); (try with_reducible rfl))); try simp only [Act.put, List.setIfInBounds_toArray, List.set_cons_zero, List.set_cons_succ])
                refine wpG_nil ?_
                go_wp2_with fail
                have HQG := Lib.hid qg; have HQ7 := Lib.hid qd
                clear qd qg hS g0 g1 f0 f1 hl0 hl2
                have hra7 := HRA5.out.below HB57.out
                have HRA7 := Lib.hid hra7
                clear hra7
                have HPZ : Hid (PartC cur ((n, d) :: subR d C) 0 (d' + 1 - d)) := Lib.hid (fun t ht => by have q1 := HPC.out t ht; simpa using q1)
                have HSE : Hid (∀ t, t < e - i → -1 ≤ (((n, d) :: subR d C).getD t (0, 0)).2 ∧ (((n, d) :: subR d C).getD t (0, 0)).2 ≤ 65) := Lib.hid (fun t ht => by
                  have hmem : ((n, d) :: subR d C).getD t (0, 0) ∈ ((n, d) :: subR d C) := by
                    have h1 : t < ((n, d) :: subR d C).length := by rw [HSL.out]; exact ht
                    rw [List.getD_eq_getElem?_getD, List.getElem?_eq_getElem h1]; exact List.getElem_mem h1
                  have hmR : ((n, d) :: subR d C).getD t (0, 0) ∈ R := by rw [HRS.out]; exact List.mem_append_left _ (List.mem_append_right _ hmem)
                  obtain ⟨AA, CC, hsp⟩ := List.append_of_mem hmR
                  have q1 := rdepth_le HW.out (n := (((n, d) :: subR d C).getD t (0, 0)).1) (d := (((n, d) :: subR d C).getD t (0, 0)).2) hsp
                  omega)
                generalize hSS : ((n, d) :: subR d C) = S at *
                have HSS := Lib.hid hSS
                clear hSS
                generalize hzz : d' + 1 - d = z at *
                have hz0 : -64 ≤ z := by omega
                have hz1 : z ≤ 65 := by omega
                have HZ := Lib.hid hzz
                clear hzz
                go_loopw [17, 18] (fun dv iv wr => PartI w w5.heap.size g 28 133 #[.slice (some ⟨b, off, none⟩) l c, .int .i64 next] #[.slice none 0 0, .int .i64 0] #[.slice (some ⟨b5, off5, none⟩) l5 c5, .int .i64 next] (some ⟨b5, off5, none⟩) (A ++ Bo) S z dv iv wr) (fun _ iv _ => e - i - (intOf iv).toNat)
                case atStart => unfold PartI; exact ⟨0, cur, rfl, Nat.zero_le _, rfl, by have q1 := HB7.out; (repeat' (first | (with_reducible exact Below.refl _ _) | (with_reducible assumption) | (with_reducible refine below_from_drew ?_) | (with_reducible refine Below.alloc ?_ ?_ _) | (with_reducible refine Below.drew ?_) | (with_reducible refine below_drewN ?_ _) | (with_reducible refine Below.setCell ?_ ?_ _) | (with_reducible refine below_via ?_ (by assumption) ?_) | (with_reducible refine below_ov ?_ ?_ _ _) | go_size)), has_drew HH70.out, has_drew HH71.out, has_drew HH72.out, HRA7.out, has_drew HG7.out, HPZ.out⟩
                case round =>
                  unfold PartI at hrel
                  obtain ⟨k, cs, rfl, hk, rfl, hbw, h0, h1, h2, hra, hg, hpc⟩ := hrel
                  rw [HSL.out] at hk
                  have HBW := Lib.hid hbw; have HP0 := Lib.hid h0; have HP1 := Lib.hid h1; have HP2 := Lib.hid h2; have HRA := Lib.hid hra; have HGG := Lib.hid hg; have HPP := Lib.hid hpc
                  clear hbw h0 h1 h2 hra hg hpc
                  rcases Nat.lt_or_ge k (e - i) with c5 | c5
                  · have c6 : (k : Int) < ((e - i : Nat) : Int) := by omega
                    have c7 : (0 : Int) ≤ (k : Int) := by omega
                    obtain ⟨q1, q2⟩ := HPP.out k (by rw [HSL.out]; exact c5)
                    obtain ⟨s1, s2⟩ := HSE.out k c5
                    have HX := Lib.hid (deepB_succ (S := S) (k := k) (z := z) (by rw [HSL.out]; exact c5))
                    have HST := Lib.hid (partC_step HPP.out (by rw [HSL.out]; exact c5))
                    generalize (S.getD k (0, 0)).2 = x at *
                    rw [if_neg (Nat.lt_irrefl k), Int.add_zero] at q2
                    have hlg := HGG.out.lt
                    have HOV := Lib.hid (ov_self HGG.out)
                    have HQS := Lib.hid (Array.getElem?_eq_some_iff.1 q2).1
                    rw [← HOV.out]
                    clear q1
                    go_upto_region 20 with fail
                    have hge : w.heap.size + 1 < g := Nat.lt_of_lt_of_le HH31.out.lt hg4
                    have hg5 := HG5.out.lt
                    have hBn : Below w.heap.size w (ov wr g (cs.setIfInBounds (k * 2 + 1) (.int .i64 (x + z))) 133) := by have q3 := HBW.out; (repeat' (first | (with_reducible exact Below.refl _ _) | (with_reducible assumption) | (with_reducible refine below_from_drew ?_) | (with_reducible refine Below.alloc ?_ ?_ _) | (with_reducible refine Below.drew ?_) | (with_reducible refine below_drewN ?_ _) | (with_reducible refine Below.setCell ?_ ?_ _) | (with_reducible refine below_via ?_ (by assumption) ?_) | (with_reducible refine below_ov ?_ ?_ _ _) | go_size))
                    have hp0 := has_ov_other (cs' := cs.setIfInBounds (k * 2 + 1) (.int .i64 (x + z))) (T' := 133) (show w.heap.size ≠ g by omega) HP0.out
                    have hp1 := has_ov_other (cs' := cs.setIfInBounds (k * 2 + 1) (.int .i64 (x + z))) (T' := 133) (show w.heap.size + 1 ≠ g by omega) HP1.out
                    have hp2 := has_ov_other (cs' := cs.setIfInBounds (k * 2 + 1) (.int .i64 (x + z))) (T' := 133) (show w5.heap.size ≠ g by omega) HP2.out
                    have hra' := rowsAt_ov (cs := cs.setIfInBounds (k * 2 + 1) (.int .i64 (x + z))) (T := 133) (show b5 ≠ g by omega) HRA.out
                    have hgn := has_ov_same (cs := cs.setIfInBounds (k * 2 + 1) (.int .i64 (x + z))) (T := 133) hlg
                    have gk : (ov wr g (cs.setIfInBounds (k * 2 + 1) (.int .i64 (x + z))) 133).cell? ⟨g, k * 2 + 1, none⟩ = some (.int .i64 (x + z)) := by
                      rw [hgn.cells, Array.getElem?_setIfInBounds_self_of_lt HQS.out]
                    obtain ⟨wn, hwn⟩ : ∃ wn, ov wr g (cs.setIfInBounds (k * 2 + 1) (.int .i64 (x + z))) 133 = wn := ⟨_, rfl⟩
                    rw [hwn] at hBn hp0 hp1 hp2 hra' hgn gk ⊢
                    have HBN := Lib.hid hBn; have HN0' := Lib.hid hp0; have HN1 := Lib.hid hp1; have HN2 := Lib.hid hp2; have HNR := Lib.hid hra'; have HNG := Lib.hid hgn
                    have hlgn := hgn.lt
                    clear hwn hBn hp0 hp1 hp2 hra' hgn HOV hlg q2
                    cases hdk : deepB S k z
                    · have HDK := Lib.hid hdk
                      clear hdk
                      go_wp2_with fail
                      go_roundw
                      case rel => unfold PartI; exact ⟨k + 1, _, by go_num, by rw [HSL.out]; omega, by rw [HX.out, HDK.out]; rfl, HBN.out, HN0'.out, HN1.out, HN2.out, HNR.out, HNG.out, HST.out⟩
                      case measure => simp [intOf]; omega
                    · have HDK := Lib.hid hdk
                      clear hdk
                      go_wp2_with fail
                      go_roundw
                      case rel => unfold PartI; exact ⟨k + 1, _, by go_num, by rw [HSL.out]; omega, by rw [HX.out, HDK.out]; rfl, HBN.out, HN0'.out, HN1.out, HN2.out, HNR.out, HNG.out, HST.out⟩
                      case measure => simp [intOf]; omega
                  · obtain rfl : k = e - i := by omega
                    have c6 : decide (((e - i : Nat) : Int) < ((e - i : Nat) : Int)) = false := by simp
                    have hdb : deepB S (e - i) z = decide (64 < d' + 1 + maxDeep d S) := by
                      have q1 := deepB_all (d := d) (z := z) HSS.out.symm
                      rw [HSL.out] at q1
                      rw [q1, show d + z = d' + 1 by have := HZ.out; omega]
                    have g0 := has_cell HP0.out (o := 0) rfl
                    have g1 := has_cell HP0.out (o := 1) rfl
                    have hl0 := HP0.out.lt
                    by_cases hdp : 64 < d' + 1 + maxDeep d S
                    · have hdb' : deepB S (e - i) z = true := by rw [hdb]; simp [hdp]
                      have HFF : Hid (moveT R n par at_ = (R, 7)) := HM2.out.trans (if_pos hdp)
                      clear hdb hdp
                      rw [hdb']
                      have hH1 := HP1.out
                      have hl1 := hH1.lt
                      have HOV := Lib.hid (ov_self hH1)
                      clear hH1
                      rw [← HOV.out]
                      go_wp2_with (refine bodyPost_ct (b := w.heap.size + 1) Try.results19 rfl rfl (has_ov_same (by first | exact hl1 | (simp; omega))) Try.underlying28 rfl rfl rfl rfl ?_)
                      have hBB : Below w.heap.size w (ov wr (w.heap.size + 1) #[.slice (some ⟨b, off, none⟩) l c, .int .i64 next] 28) := by have q := HBW.out; (repeat' (first | (with_reducible exact Below.refl _ _) | (with_reducible assumption) | (with_reducible refine below_from_drew ?_) | (with_reducible refine Below.alloc ?_ ?_ _) | (with_reducible refine Below.drew ?_) | (with_reducible refine below_drewN ?_ _) | (with_reducible refine Below.setCell ?_ ?_ _) | (with_reducible refine below_via ?_ (by assumption) ?_) | (with_reducible refine below_ov ?_ ?_ _ _) | go_size))
                      exact .mk HFF.out rfl (HREF.out.below hBB) hBB
                    · have hdb' : deepB S (e - i) z = false := by rw [hdb]; simp [hdp]
                      have hff := HM2.out.trans (if_neg hdp)
                      clear hdb hdp
                      rw [hdb']
                      obtain ⟨ka, rfl⟩ : ∃ ka : Nat, at_ = (ka : Int) := ⟨at_.toNat, by omega⟩
                      rw [Int.toNat_natCast] at hff
                      have hkk : ka ≤ kl := by omega
                      have hcl : jp + 1 + cutR d' ka C' ≤ l5 := by
                        obtain ⟨A2, B, e1, e2, _⟩ := HCS.out (by simp; exact hkk)
                        rw [Int.toNat_natCast] at e2
                        have q1 := HLEN.out
                        have q2 := congrArg List.length e1
                        rw [List.length_append] at q2
                        omega
                      have hP := fun u hu => HP5.out u hu ka hkk
                      generalize jp + 1 + cutR d' ka C' = qq at *
                      have HCL := Lib.hid hcl; have HPK := Lib.hid hP; have HFF := Lib.hid hff
                      have f0 := has_cell HP2.out (o := 0) rfl
                      have f1 := has_cell HP2.out (o := 1) rfl
                      have hl2 := HP2.out.lt
                      clear hP hff hcl hkk cc1 cc2 c3 c4
                      have hrad := HRA.out.below (by (repeat' (first | (with_reducible exact Below.refl _ _) | (with_reducible assumption) | (with_reducible refine below_from_drew ?_) | (with_reducible refine Below.alloc ?_ ?_ _) | (with_reducible refine Below.drew ?_) | (with_reducible refine below_drewN ?_ _) | (with_reducible refine Below.setCell ?_ ?_ _) | (with_reducible refine below_via ?_ (by assumption) ?_) | (with_reducible refine below_ov ?_ ?_ _ _) | go_size)) : Below wr.heap.size wr wr.drew)
                      have HRAD := Lib.hid hrad
                      clear hrad
                      go_wp2_with fail
                      refine region_ord [(0, 0), (1, 0), (2, 0), (3, 0), (5, 0), (4, 1), (6, 2), (7, 2), (8, 2)] (by kernel_rfl) (by kernel_rfl) (fun _ _ d _ _ h => by cases d <;> exact h) (fun hS => ?_)
                      (refine wpG_read (v := ?_) rfl (.inl ⟨by rfl, fun wx hbx => ?_⟩) ?_; rotate_left; (focus (obtain ⟨cx0, fx0, zx0⟩ := bk hbx (w5.heap.size) (by first | omega | (simp; done) | (simp; omega)); go_simp; (try go_bits); (try with_reducible rfl))); try simp only [Act.put, List.setIfInBounds_toArray, List.set_cons_zero, List.set_cons_succ])
                      (refine wpG_read (v := ?_) rfl (.inl ⟨by rfl, fun wx hbx => ?_⟩) ?_; rotate_left; (focus (obtain ⟨cx0, fx0, zx0⟩ := bk hbx (w5.heap.size) (by first | omega | (simp; done) | (simp; omega)); go_simp; (try go_bits); (try with_reducible rfl))); try simp only [Act.put, List.setIfInBounds_toArray, List.set_cons_zero, List.set_cons_succ])
                      (refine wpG_read (v := ?_) rfl (.inl ⟨by rfl, fun wx hbx => ?_⟩) ?_; rotate_left; (focus (obtain ⟨cx0, fx0, zx0⟩ := bk hbx (w5.heap.size) (by first | omega | (simp; done) | (simp; omega)); go_simp; (try go_bits); (try with_reducible rfl))); try simp only [Act.put, List.setIfInBounds_toArray, List.set_cons_zero, List.set_cons_succ])
                      (refine wpG_read (v := ?_) rfl (.inl ⟨by rfl, fun wx hbx => ?_⟩) ?_; rotate_left; (focus (obtain ⟨cx0, fx0, zx0⟩ := bk hbx (w5.heap.size) (by first | omega | (simp; done) | (simp; omega)); go_simp; (try go_bits); (try with_reducible rfl))); try simp only [Act.put, List.setIfInBounds_toArray, List.set_cons_zero, List.set_cons_succ])
                      (refine wpG_read (v := ?_) rfl (.inl ⟨by rfl, fun wx hbx => ?_⟩) ?_; rotate_left; (focus (obtain ⟨cx0, fx0, zx0⟩ := bk hbx (w5.heap.size) (by first | omega | (simp; done) | (simp; omega)); go_simp; (try go_bits); (try with_reducible rfl))); try simp only [Act.put, List.setIfInBounds_toArray, List.set_cons_zero, List.set_cons_succ])
                      (refine wpG_make rfl (fun K hK => ?_); go_simp; (go_at_call 62; (with_reducible refine (HPK.out _ HRAD.out).mono ?_); rintro e u8 ⟨rfl, hb⟩; have hz := hb.size; refine (fun hB => ?_ : Below wr.heap.size wr u8 → _) ?_; rotate_left; (focus ((repeat' (first | (with_reducible exact Below.refl _ _) | (with_reducible assumption) | (with_reducible refine below_from_drew ?_) | (with_reducible refine Below.alloc ?_ ?_ _) | (with_reducible refine Below.drew ?_) | (with_reducible refine below_drewN ?_ _) | (with_reducible refine Below.setCell ?_ ?_ _) | (with_reducible refine below_via ?_ (by assumption) ?_) | (with_reducible refine below_ov ?_ ?_ _ _) | go_size)); done)); (try simp only [World.size_alloc, World.size_setCell, World.size_drew, ov_size] at hz)); (try simp only []); refine hK _ _ ?_ (fun hS2 => ?_); (focus ((repeat' (first | (with_reducible exact Below.refl _ _) | (with_reducible assumption) | (with_reducible refine below_from_drew ?_) | (with_reducible refine Below.alloc ?_ ?_ _) | (with_reducible refine Below.drew ?_) | (with_reducible refine below_drewN ?_ _) | (with_reducible refine Below.setCell ?_ ?_ _) | (with_reducible refine below_via ?_ (by assumption) ?_) | (with_reducible refine below_ov ?_ ?_ _ _) | go_size)); done)); clear hK K hS; have hS := hS2; clear hS2; (try clear hb); try simp only [Act.put, List.setIfInBounds_toArray, List.set_cons_zero, List.set_cons_succ])
                      have hra8 := HRA.out.below hB
                      have hrows := (partC_rows (by have q1 := HPP.out; rw [← HSL.out] at q1; exact q1) HGG.out).below hB
                      have hp1 := has_below hB HP1.out
                      have hb8 := below_via HBW.out hB HBW.out.size
                      have HR8 := Lib.hid hra8; have HRO := Lib.hid hrows; have HP18 := Lib.hid hp1; have HB8 := Lib.hid hb8
                      clear hra8 hrows hp1 hb8 hB hS hz f0 f1 g0 g1
                      refine wpG_late rfl (fun K hK => ?_)
                      go_simp
                      (go_at_call 61; (with_reducible refine (HWI.out _ HR8.out qq HCL.out _ HRO.out).mono ?_); rintro e9 w9 ⟨al9, ca9, rfl, hca9, hR9, hb9⟩)
                      refine hK _ _ ?_
                      clear hK K
                      (try simp only [Act.put, List.setIfInBounds_toArray, List.set_cons_zero, List.set_cons_succ])
                      have HP19 := Lib.hid (has_below hb9 HP18.out)
                      have HB9 := Lib.hid (below_via HB8.out hb9 HB8.out.size)
                      have HR9 := Lib.hid (rowsAt_ov1 (c := #[.slice al9 (l5 + (e - i)) ca9, .int .i64 next]) (T' := 28) HP19.out hR9)
                      have hl9 := HP19.out.lt
                      have HOV9 := Lib.hid (ov_self HP19.out)
                      clear hR9 hb9
                      rw [← HOV9.out]
                      refine wpG_late rfl (fun K hK => ?_)
                      go_simp
                      refine hK _ _ ?_
                      clear hK K
                      (try simp only [Act.put, List.setIfInBounds_toArray, List.set_cons_zero, List.set_cons_succ])
                      refine wpG_late rfl (fun K hK => ?_)
                      go_simp
                      refine hK _ _ ?_
                      clear hK K
                      (try simp only [Act.put, List.setIfInBounds_toArray, List.set_cons_zero, List.set_cons_succ])
                      refine wpG_nil ?_
                      go_wp2_with (refine bodyPost_ct (b := w.heap.size + 1) Try.results19 rfl rfl (has_ov_same (by first | exact hl9 | (simp; omega))) Try.underlying28 rfl rfl rfl rfl ?_)
                      have hBB : Below w.heap.size w (ov w9 (w.heap.size + 1) #[.slice al9 (l5 + (e - i)) ca9, .int .i64 next] 28) := by have q1 := HB9.out; (repeat' (first | (with_reducible exact Below.refl _ _) | (with_reducible assumption) | (with_reducible refine below_from_drew ?_) | (with_reducible refine Below.alloc ?_ ?_ _) | (with_reducible refine Below.drew ?_) | (with_reducible refine below_drewN ?_ _) | (with_reducible refine Below.setCell ?_ ?_ _) | (with_reducible refine below_via ?_ (by assumption) ?_) | (with_reducible refine below_ov ?_ ?_ _ _) | go_size))
                      have hlr : ((A ++ Bo).take qq ++ shiftR z S ++ (A ++ Bo).drop qq).length = l5 + (e - i) := by
                        have h1 := HL5.out
                        have h2 := HCL.out
                        have h3 : (shiftR z S).length = e - i := by rw [← HSL.out]; simp [shiftR]
                        simp only [List.length_append, List.length_take, List.length_drop] at h1 ⊢
                        omega
                      exact .mk HFF.out rfl (refAt_mk HR9.out hlr (by omega) hca9) hBB
end Go.Proofs.Ytcpehmlkhmfmhaa
