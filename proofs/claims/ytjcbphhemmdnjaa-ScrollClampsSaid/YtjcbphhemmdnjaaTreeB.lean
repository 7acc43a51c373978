/- package tree: Depth, Kids; slices.Clone at []int. -/
import Derived.Test.YtjcbphhemmdnjaaTreeA
import Derived.Lib.SliceRun
namespace Go.Proofs.Ytjcbphhemmdnjaa
open Go.RowKit
set_option linter.unusedSimpArgs false
set_option linter.unusedVariables false
-- below_from_drew
attribute [local go_sem] ov_cell_same ov_cell_other ov_frozen_same ov_frozen_other ov_size ov_setCell_same ov_setCell_other cell_alloc_old frozen_alloc_old setCell_alloc_old old_alloc old_ov old_drew old_drewN old_setCell
attribute [local go_sem ↓] run_max2 run_min2
attribute [local go_sem] node_f0 node_f1 look_node look_node_ok put_node del_node len_node mapOk_alloc mapOf_alloc mapOk_drew mapOf_drew mapOk_drewN mapOf_drewN mapOk_ov mapOf_ov

theorem depth_le {R : Rows} {next : Int} (h : WfR R next) {A C : Rows} {n d : Int} (e : R = A ++ (n, d) :: C) : 0 ≤ d ∧ d ≤ 64 := by
  refine ⟨?_, h.deep (n, d) (by rw [e]; simp)⟩
  by_cases hA : A = []
  · obtain ⟨R', hR, _⟩ := h.head
    subst hA
    rw [hR] at e
    injection e with e1 e2
    cases e1; exact Int.le_refl _
  · have := (h.parent e hA).1; omega
set_option maxRecDepth 100000 in
theorem depth_any (p bm : Nat) (base : Nat → Prop) (R : Rows) (next : Int) : ∀ (N : Nat) (A C : Rows) (n d : Int) (w : World), d.toNat < N → TreeAt w p bm base R next → R = A ++ (n, d) :: C →
    Calls Try.prog 51 #[.pointer (some ⟨p, 0, none⟩), .int .i64 n] w fun e w' => e = .returned (.int .i64 d) ∧ Below w.heap.size w w'
  | 0, A, C, n, d, w, hN, h, e => by omega
  | N + 1, A, C, n, d, w, hN, h, e => by
    obtain ⟨hd0, hd1⟩ := depth_le h.wf e
    by_cases hA : A = []
    · have hd : d = 0 := by
        obtain ⟨R', hR, _⟩ := h.wf.head
        subst hA
        rw [hR] at e
        injection e with e1 e2
        cases e1; rfl
      have HP := Lib.hid (parent_out p bm base R next n w h (.inl ((h.wf.root e).2 hA)))
      subst hd
      clear h e hA
      go_enter Try.func51, Try.ntmps51
      go_wp2_with ((go_at_call 42; (with_reducible refine (HP.out).mono ?_); rintro e u1 ⟨rfl, hb⟩; have hz := hb.size; refine (fun hB => ?_ : Below w.heap.size w u1 → _) ?_; rotate_left; (focus ((repeat' (first | (with_reducible exact Below.refl _ _) | (with_reducible assumption) | (with_reducible refine below_from_drew ?_) | (with_reducible refine Below.alloc ?_ ?_ _) | (with_reducible refine Below.drew ?_) | (with_reducible refine below_drewN ?_ _) | (with_reducible refine Below.setCell ?_ ?_ _) | (with_reducible refine below_via ?_ (by assumption) ?_) | (with_reducible refine below_ov ?_ ?_ _ _) | go_size)); done)); (try simp only [World.size_alloc, World.size_setCell, World.size_drew, ov_size] at hz)))
      go_ret
      exact ⟨rfl, by (repeat' (first | (with_reducible exact Below.refl _ _) | (with_reducible assumption) | (with_reducible refine below_from_drew ?_) | (with_reducible refine Below.alloc ?_ ?_ _) | (with_reducible refine Below.drew ?_) | (with_reducible refine below_drewN ?_ _) | (with_reducible refine Below.setCell ?_ ?_ _) | (with_reducible refine below_via ?_ (by assumption) ?_) | (with_reducible refine below_ov ?_ ?_ _ _) | go_size))⟩
    · obtain ⟨h1, A1, m, A2, e1, h2, h3⟩ := h.wf.parent e hA
      have HP := Lib.hid (parent_any p bm base R A C next n d w h e hA)
      have HI := Lib.hid (fun u (hb : Below w.heap.size w u) => depth_any p bm base R next N A1 (A2 ++ (n, d) :: C) m (d - 1) u (by omega) (h.below hb) (by rw [e, e1]; simp))
      have HM := Lib.hid h3
      have hd : (1 : Int) + (d - 1) = d := by omega
      have HD := Lib.hid hd
      have h64 : d ≤ 64 := hd1
      clear h e hA e1 h2 h3 hd
      generalize d - 1 = d' at *
      have hd' : 0 ≤ d' ∧ d' ≤ 64 := by have := HD.out; omega
      obtain ⟨hd2, hd3⟩ := hd'
      go_enter Try.func51, Try.ntmps51
      go_wp2_with (first | (go_at_call 42; (with_reducible refine (HP.out).mono ?_); rintro e u1 ⟨rfl, hb⟩; have hz := hb.size; refine (fun hB => ?_ : Below w.heap.size w u1 → _) ?_; rotate_left; (focus ((repeat' (first | (with_reducible exact Below.refl _ _) | (with_reducible assumption) | (with_reducible refine below_from_drew ?_) | (with_reducible refine Below.alloc ?_ ?_ _) | (with_reducible refine Below.drew ?_) | (with_reducible refine below_drewN ?_ _) | (with_reducible refine Below.setCell ?_ ?_ _) | (with_reducible refine below_via ?_ (by assumption) ?_) | (with_reducible refine below_ov ?_ ?_ _ _) | go_size)); done)); (try simp only [World.size_alloc, World.size_setCell, World.size_drew, ov_size] at hz)) | (go_at_call 51; rw [HM.out]; (with_reducible refine (HI.out _ (by assumption)).mono ?_); rintro e w1 ⟨rfl, hb2⟩))
      go_ret
      refine ⟨by rw [← HD.out]; rfl, ?_⟩
      (repeat' (first | (with_reducible exact Below.refl _ _) | (with_reducible assumption) | (with_reducible refine below_from_drew ?_) | (with_reducible refine Below.alloc ?_ ?_ _) | (with_reducible refine Below.drew ?_) | (with_reducible refine below_drewN ?_ _) | (with_reducible refine Below.setCell ?_ ?_ _) | (with_reducible refine below_via ?_ (by assumption) ?_) | (with_reducible refine below_ov ?_ ?_ _ _) | go_size))
theorem depth_out (p bm : Nat) (base : Nat → Prop) (R : Rows) (next n : Int) (w : World) (h : TreeAt w p bm base R next) (hn : n ∉ nums R) :
    Calls Try.prog 51 #[.pointer (some ⟨p, 0, none⟩), .int .i64 n] w fun e w' => e = .returned (.int .i64 0) ∧ Below w.heap.size w w' := by
  have HP := Lib.hid (parent_out p bm base R next n w h (.inr hn))
  clear h hn
  go_enter Try.func51, Try.ntmps51
  go_wp2_with ((go_at_call 42; (with_reducible refine (HP.out).mono ?_); rintro e u1 ⟨rfl, hb⟩; have hz := hb.size; refine (fun hB => ?_ : Below w.heap.size w u1 → _) ?_; rotate_left; (focus ((repeat' (first | (with_reducible exact Below.refl _ _) | (with_reducible assumption) | (with_reducible refine below_from_drew ?_) | (with_reducible refine Below.alloc ?_ ?_ _) | (with_reducible refine Below.drew ?_) | (with_reducible refine below_drewN ?_ _) | (with_reducible refine Below.setCell ?_ ?_ _) | (with_reducible refine below_via ?_ (by assumption) ?_) | (with_reducible refine below_ov ?_ ?_ _ _) | go_size)); done)); (try simp only [World.size_alloc, World.size_setCell, World.size_drew, ov_size] at hz)))
  go_ret
  exact ⟨rfl, by (repeat' (first | (with_reducible exact Below.refl _ _) | (with_reducible assumption) | (with_reducible refine below_from_drew ?_) | (with_reducible refine Below.alloc ?_ ?_ _) | (with_reducible refine Below.drew ?_) | (with_reducible refine below_drewN ?_ _) | (with_reducible refine Below.setCell ?_ ?_ _) | (with_reducible refine below_via ?_ (by assumption) ?_) | (with_reducible refine below_ov ?_ ?_ _ _) | go_size))⟩
theorem infoT : (Try.prog.info? 3).map (fun i => (i.zero, i.size, i.bytes)) = some (some (.int .i64 0), 1, 8) := by kernel_rfl
theorem eql_nil22 (w : World) (a : Option Addr) (n c n' c' : Nat) : (binOp .eql 54 (.slice a n c) (.slice none n' c')).run Try.prog w = .ok (.bool a.isNone) w := Lib.run_eql_slice_nil w _ _ a n c n' c' Try.underlying54
attribute [local go_sem] eql_nil22
set_option maxRecDepth 100000 in
set_option maxHeartbeats 1000000 in
theorem clone_any (a : Option Addr) (n c : Nat) (xs : List Int) (w : World) (hn : xs.length = n) (hmx : n ≤ 1000000) (h : IntsAt w a xs) :
    Calls Try.prog 75 #[.slice a n c] w fun e w' => ∃ a' c', e = .returned (.slice a' n c') ∧ n ≤ c' ∧ w'.ownsRow w.heap.size 3 1 (.slice a' n c') n (intVals xs) ∧ Below w.heap.size w w' := by
  obtain ⟨i0, hi, hz0, hz1, hz2⟩ := info_parts infoT
  cases a with
  | none =>
    have h0 : n = 0 := by
      rcases Nat.eq_zero_or_pos n with q | q
      · exact q
      · obtain ⟨b, off, e, _⟩ := h (by omega); cases e
    subst h0
    obtain rfl : xs = [] := List.eq_nil_of_length_eq_zero hn
    go_enter Try.func75, Try.ntmps75
    go_wp2
    go_ret
    exact ⟨none, 0, rfl, Nat.le_refl _, World.ownsRow_nil _ _ _ _, Below.refl _ _⟩
  | some x =>
    have hx : ∀ j u, (intVals xs)[j]? = some u → (w.alloc (.cells #[] 3)).cell? (x.add j) = some u := fun j u hj => by
      have hjl : j < xs.length := by
        have := (List.getElem?_eq_some_iff.1 hj).1
        simpa [intVals] using this
      obtain ⟨b, off, e, hb, hc⟩ := h (by omega)
      cases e
      rw [Addr.add_lit, cell_alloc_old hb, hc j hjl, ← hj, intVals_get hjl]
    have HX := Lib.hid hx; have HN := Lib.hid hn
    clear h hn hx
    go_enter Try.func75, Try.ntmps75
    go_wp2_with (at_builtin; refine wpList_append_own _ rfl _ _ 54 rfl w.heap.size 3 i0 (.int .i64 0) 1 8 Try.underlying54 hi hz0 hz1 hz2 rfl (by decide) _ _ _ rfl (World.ownsRow_made w #[] 0 (Nat.le_refl _) (Nat.zero_le _) rfl) x n c (intVals xs) rfl ?qc1 ?qc2 ?qc3 ?qc4 ?qc5 ?qc6 ?_)
    case qc1 => simp [intVals, HN.out]
    case qc2 => exact HX.out
    case qc3 => intro u hu; obtain ⟨y, _, rfl⟩ := List.mem_map.1 hu; rfl
    case qc4 => unfold maxLen; omega
    case qc5 => omega
    case qc6 => simp
    intro v' w1 hown hgrow hnil
    clear hnil
    have hB : Below w.heap.size w w1 := ((Below.refl _ w).alloc (Nat.le_refl _) _).grown hgrow (by simp) (by intro k hk; simp [Value.ownBlock] at hk; omega)
    have hown : w1.ownsRow w.heap.size 3 1 v' n (intVals xs) := by simpa using hown
    obtain ⟨a', c', rfl, hc', _⟩ := row_reads hown
    have HO := Lib.hid hown; have HB := Lib.hid hB
    clear hown hgrow hB
    go_wp2
    go_ret
    exact ⟨a', c', rfl, hc', HO.out, HB.out⟩
set_option maxRecDepth 100000 in
theorem kids_out (p bm : Nat) (base : Nat → Prop) (R : Rows) (next n : Int) (w : World) (h : TreeAt w p bm base R next) (hn : n ∉ nums R) :
    Calls Try.prog 68 #[.pointer (some ⟨p, 0, none⟩), .int .i64 n] w fun e w' => e = .returned (.slice none 0 0) ∧ Below w.heap.size w w' := by
  have HP := Lib.hid (thas_any p bm base R next n w h)
  have h2 : decide (n ∈ nums R) = false := by simp [hn]
  clear h hn
  go_enter Try.func68, Try.ntmps68
  go_wp2_with ((go_at_call 49; (with_reducible refine (HP.out).mono ?_); rintro e u1 ⟨rfl, hb⟩; have hz := hb.size; refine (fun hB => ?_ : Below w.heap.size w u1 → _) ?_; rotate_left; (focus ((repeat' (first | (with_reducible exact Below.refl _ _) | (with_reducible assumption) | (with_reducible refine below_from_drew ?_) | (with_reducible refine Below.alloc ?_ ?_ _) | (with_reducible refine Below.drew ?_) | (with_reducible refine below_drewN ?_ _) | (with_reducible refine Below.setCell ?_ ?_ _) | (with_reducible refine below_via ?_ (by assumption) ?_) | (with_reducible refine below_ov ?_ ?_ _ _) | go_size)); done)); (try simp only [World.size_alloc, World.size_setCell, World.size_drew, ov_size] at hz)))
  go_ret
  exact ⟨rfl, by (repeat' (first | (with_reducible exact Below.refl _ _) | (with_reducible assumption) | (with_reducible refine below_from_drew ?_) | (with_reducible refine Below.alloc ?_ ?_ _) | (with_reducible refine Below.drew ?_) | (with_reducible refine below_drewN ?_ _) | (with_reducible refine Below.setCell ?_ ?_ _) | (with_reducible refine below_via ?_ (by assumption) ?_) | (with_reducible refine below_ov ?_ ?_ _ _) | go_size))⟩
set_option maxRecDepth 100000 in
theorem tkids_any (p bm : Nat) (base : Nat → Prop) (R A C : Rows) (next n d : Int) (w : World) (h : TreeAt w p bm base R next) (e : R = A ++ (n, d) :: C) (hm : R.length ≤ 1000000) (hk : (kidsR d C).length ≤ 1000000) :
    Calls Try.prog 68 #[.pointer (some ⟨p, 0, none⟩), .int .i64 n] w fun e w' => ∃ a c, e = .returned (.slice a (kidsR d C).length c) ∧ IntsAt w' a (kidsR d C) ∧ Below w.heap.size w w' := by
  have HP := Lib.hid (thas_any p bm base R next n w h)
  have h2 : decide (n ∈ nums R) = true := by simp [e, nums]
  have HT := Lib.hid h; have HE := Lib.hid e
  clear h e
  go_enter Try.func68, Try.ntmps68
  go_wp2_with (first | (go_at_call 49; (with_reducible refine HP.out.mono ?_); rintro e' w1 ⟨rfl, hb⟩; have hT := HT.out.below hb; obtain ⟨a, c, hv, _, hI⟩ := hT.node HE.out; have HI := Lib.hid hI; have c0 := has_cell hT.str (o := 0) rfl; have hl := hT.str.lt; have hk := hT.ok; have HB := Lib.hid hb; clear hT hb hI) | (go_at_call 75; (with_reducible refine (clone_any _ _ _ _ _ rfl (by assumption) HI.out).mono ?_); rintro e' w2 ⟨a', c', rfl, hc', hown, hb2⟩; have HO := Lib.hid hown; have HB2 := Lib.hid hb2; clear hown hb2))
  go_ret
  exact ⟨_, _, rfl, intsAt_owned HO.out rfl, below_via HB.out HB2.out HB.out.size⟩
end Go.Proofs.Ytjcbphhemmdnjaa
