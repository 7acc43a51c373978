/- law26 (stack): the document's world, read; ref26.Context, key; rows of nodes of one's own. -/
import Derived.Test.YtjcbphhemmdnjaaStkA
import Derived.Test.YtjcbphhemmdnjaaStkP
import Derived.Test.YtjcbphhemmdnjaaInts
import Derived.Deep.OwnRows
namespace Go.Proofs.Ytjcbphhemmdnjaa
open Go Go.RowKit
set_option linter.unusedSimpArgs false
set_option linter.unusedVariables false
-- below_from_drew
attribute [local go_sem] ov_cell_same ov_cell_other ov_frozen_same ov_frozen_other ov_size ov_setCell_same ov_setCell_other cell_alloc_old frozen_alloc_old setCell_alloc_old old_alloc old_ov old_drew old_drewN old_setCell
attribute [local go_sem ↓] run_max2 run_min2
/-- Is a node a context? -/
def ctx26 (l : List N26) (n : Nat) : Bool := decide (n = 0) || (!tx26 l n && decide ((nd26 l n).pos % 3 ≠ 0) && !(nd26 l n).au)
def z26 (l : List N26) (n : Nat) : Int := (nd26 l n).z
theorem ctx26_zero (l : List N26) : ctx26 l 0 = true := rfl
theorem ctx26_pos (l : List N26) {n : Nat} (h : 0 < n) : ctx26 l n = (!tx26 l n && decide ((nd26 l n).pos % 3 ≠ 0) && !(nd26 l n).au) := by
  unfold ctx26
  rw [decide_eq_false (by omega), Bool.false_or]
theorem kidsZ_eq (pa : Nat → Nat) (n : Nat) : ∀ N, kidsZ pa N n = (kidsN pa N n).map (fun (k : Nat) => (k : Int))
  | 0 => rfl
  | N + 1 => by
    unfold kidsZ
    rw [kidsZ_eq pa n N]
    unfold kidsN
    rw [List.range_succ, List.filter_append, List.map_append]
    congr 1
    by_cases c : 0 < N ∧ pa N = n
    · rw [if_pos ⟨c.1, by omega⟩, List.filter_cons_of_pos (by simpa using c)]; rfl
    · rw [if_neg (fun q => c ⟨q.1, by omega⟩), List.filter_cons_of_neg (by simpa using c)]; rfl
def natVals (xs : List Nat) : List Value := xs.map (fun (x : Nat) => Value.int .i64 (x : Int))
theorem natVals_len (xs : List Nat) : (natVals xs).length = xs.length := by simp [natVals]
theorem natVals_append (xs ys : List Nat) : natVals (xs ++ ys) = natVals xs ++ natVals ys := by simp [natVals]
theorem natVals_get {xs : List Nat} {i : Nat} (h : i < xs.length) : (natVals xs)[i]? = some (.int .i64 ((xs.getD i 0 : Nat) : Int)) := by simp [natVals, h]
theorem intVals_nat (xs : List Nat) : intVals (xs.map (fun (k : Nat) => (k : Int))) = natVals xs := by simp [intVals, natVals]
/-- A row of nodes of one's own. -/
def OwnN (w : World) (base : Nat) (v : Value) (xs : List Nat) : Prop := w.ownsRow base 3 1 v xs.length (natVals xs)
theorem OwnN.below {w w1 : World} {base : Nat} {v : Value} {xs : List Nat} (h : OwnN w base v xs) (hb : Below w.heap.size w w1) : OwnN w1 base v xs := row_below hb h
theorem OwnN.shape {w : World} {base : Nat} {v : Value} {xs : List Nat} (h : OwnN w base v xs) : ∃ a c, v = .slice a xs.length c := by
  obtain ⟨a, c, e, _⟩ := row_reads h
  exact ⟨a, c, e⟩
theorem OwnN.cells {w : World} {base : Nat} {v : Value} {xs : List Nat} (h : OwnN w base v xs) (h0 : 0 < xs.length) : ∃ g c, v = .slice (some ⟨g, 0, none⟩) xs.length c ∧ base ≤ g ∧ g < w.heap.size ∧ ∀ j, j < xs.length → w.cell? ⟨g, j, none⟩ = some (.int .i64 ((xs.getD j 0 : Nat) : Int)) := by
  obtain ⟨a, c, e, _, _, hr⟩ := row_reads h
  obtain ⟨g, rfl, h1, h2, h3⟩ := hr h0
  exact ⟨g, c, e, h1, h2, fun j hj => h3 j _ (natVals_get hj)⟩
/-- The cells of a row that is read. -/
def NatsAt (w : World) (a : Option Addr) (xs : List Nat) : Prop := 0 < xs.length → ∃ g, a = some ⟨g, 0, none⟩ ∧ g < w.heap.size ∧ ∀ j, j < xs.length → w.cell? ⟨g, j, none⟩ = some (.int .i64 ((xs.getD j 0 : Nat) : Int))
theorem NatsAt.below {w w1 : World} {a : Option Addr} {xs : List Nat} (h : NatsAt w a xs) (hb : Below w.heap.size w w1) : NatsAt w1 a xs := fun h0 => by
  obtain ⟨g, h1, h2, h3⟩ := h h0
  exact ⟨g, h1, Nat.lt_of_lt_of_le h2 hb.size, fun j hj => (hb.cell (p := ⟨g, j, none⟩) h2).trans (h3 j hj)⟩
theorem OwnN.at {w : World} {base n c : Nat} {a : Option Addr} {xs : List Nat} (h : OwnN w base (.slice a n c) xs) : NatsAt w a xs := fun h0 => by
  obtain ⟨g, c', e, h1, h2, h3⟩ := h.cells h0
  cases e
  exact ⟨g, rfl, h2, h3⟩
theorem OwnN.wide {w : World} {b base : Nat} {v : Value} {xs : List Nat} (h : OwnN w base v xs) (hb : b ≤ base) : OwnN w b v xs := by
  refine ⟨h.1, ?_⟩
  rcases h.2 with h | ⟨g, cap, cur, e, h1, h2⟩
  · exact .inl h
  · exact .inr ⟨g, cap, cur, e, Nat.le_trans hb h1, h2⟩
theorem infoNat : (Try.prog.info? 3).map (fun i => (i.zero, i.size, i.bytes)) = some (some (.int .i64 0), 1, 8) := by kernel_rfl
/-- A row appended to one's own, be it empty or not. -/
theorem wp_app_nat {o : Oper} {a : Act} {K : Act → World → Prop} {Q : Exit → Act → World → Prop} (w : World) (s x : Operand) (ho : o.op = .call { callee := .builtin .append, args := #[s, x], argTypes := #[54, 54] })
    (base base2 : Nat) (v u : Value) (xs ys : List Nat) (hs : a.eval s = v) (hown : OwnN w base v xs) (hx : a.eval x = u) (hsrc : OwnN w base2 u ys) (hl : xs.length + ys.length ≤ 1000000) (hbase : base ≤ w.heap.size)
    (h : ∀ v' w', OwnN w' base v' (xs ++ ys) → w.grownBy w' v.ownBlock → K (a.put o.dst v') w') : o.wp Try.prog a w K Q := by
  obtain ⟨i0, hi, hz0, hz1, hz2⟩ := info_parts infoNat
  obtain ⟨a2, c2, rfl, _, _, hr⟩ := row_reads hsrc
  rcases Nat.eq_zero_or_pos ys.length with c | c
  · have he : ys = [] := List.eq_nil_of_length_eq_zero c
    subst he
    rcases hsrc.2 with ⟨e, _⟩ | ⟨g, cap, cur, e, _⟩
    · obtain ⟨rfl, rfl⟩ : a2 = none ∧ c2 = 0 := by cases e; exact ⟨rfl, rfl⟩
      have hrun := run_append_owned_none (P := Try.prog) (w := w) base 54 o.type 3 i0 1 Try.underlying54 hi v xs.length (natVals xs) hown
      unfold Oper.wp
      simp only [List.length_nil] at hx
      simp [execOp, ho, resolve, invoke, builtin, hs, hx, hrun, Result.andThen]
      refine h _ _ ?_ (⟨rfl, rfl, rfl, Nat.le_refl _, fun _ _ _ => rfl⟩)
      rw [List.append_nil]; exact hown
    · cases e
      refine wp_append_own w s x _ ho base 3 i0 (.int .i64 0) 1 8 Try.underlying54 hi hz0 hz1 hz2 rfl (by decide) v xs.length (natVals xs) hs hown ⟨g, 0, none⟩ 0 c2 [] hx rfl (fun j u hj => by simp at hj) (fun u hu => by cases hu) (by unfold maxLen; omega) (by omega) hbase ?_
      intro v' w' h1 h2 _
      exact h v' w' (by unfold OwnN; rw [List.append_nil]; simpa using h1) h2
  · obtain ⟨g, rfl, h1, h2, h3⟩ := hr c
    refine wp_append_own w s x _ ho base 3 i0 (.int .i64 0) 1 8 Try.underlying54 hi hz0 hz1 hz2 rfl (by decide) v xs.length (natVals xs) hs hown ⟨g, 0, none⟩ ys.length c2 (natVals ys) hx (by rw [natVals_len]; omega) (fun j u hj => by rw [add_off]; exact h3 j u hj) (fun u hu => by obtain ⟨y, _, rfl⟩ := List.mem_map.1 hu; rfl) (by unfold maxLen; omega) (by omega) hbase ?_
    intro v' w' h1 h2 _
    exact h v' w' (by unfold OwnN; rw [List.length_append, natVals_append]; exact h1) h2
theorem wpList_app_nat {ops : Array Oper} {rest : List Oper} {o : Oper} {a : Act} {Q : Exit → Act → World → Prop} (w : World) (hgd : o.guard = none) (s x : Operand) (ho : o.op = .call { callee := .builtin .append, args := #[s, x], argTypes := #[54, 54] })
    (base base2 : Nat) (v u : Value) (xs ys : List Nat) (hs : a.eval s = v) (hown : OwnN w base v xs) (hx : a.eval x = u) (hsrc : OwnN w base2 u ys) (hl : xs.length + ys.length ≤ 1000000) (hbase : base ≤ w.heap.size)
    (h : ∀ v' w', OwnN w' base v' (xs ++ ys) → w.grownBy w' v.ownBlock → wpList Try.prog ops Q rest (a.put o.dst v') w') : wpList Try.prog ops Q (o :: rest) a w :=
  wpList_plain hgd fun _ hK => wp_app_nat w s x ho base base2 v u xs ys hs hown hx hsrc hl hbase fun v' w' h2 h3 => hK _ _ (h v' w' h2 h3)
theorem ownN_one (w : World) (x : Nat) : OwnN (w.alloc (.cells #[.int .i64 (x : Int)] 3)) w.heap.size (.slice (some ⟨w.heap.size, 0, none⟩) 1 1) [x] := row_new1 _ _ _
theorem ownN_nil (w : World) (base : Nat) : OwnN w base (.slice none 0 0) [] := World.ownsRow_nil _ _ _ _
/-- What the document's functions read. -/
structure Rd26 (w : World) (l : List N26) (N gL : Nat) : Prop where
  zL : gL < w.heap.size
  z : ∀ k, k < N → w.cell? ⟨gL, k * 65 + 42, none⟩ = some (.int .i64 (nd26 l k).z)
  au : ∀ k, k < N → w.cell? ⟨gL, k * 65 + 48, none⟩ = some (.bool (nd26 l k).au)
  pos : ∀ k, k < N → w.cell? ⟨gL, k * 65 + 50, none⟩ = some (.int .i64 (1 + (nd26 l k).pos % 3))
  ov : ∀ k, k < N → w.cell? ⟨gL, k * 65 + 51, none⟩ = some (.int .i64 (1 + (nd26 l k).ov % 3))
  tx : ∀ k, k < N → w.cell? ⟨gL, k * 65 + 61, none⟩ = some (.bool (tx26 l k))
  par : ∀ k, k < N → w.cell? ⟨gL, k * 65 + 64, none⟩ = some (.int .i64 (pa26 l k))
  kids : ∀ k, k < N → ∃ a c, w.cell? ⟨gL, k * 65 + 63, none⟩ = some (.slice a (kidsN (pa26 l) N k).length c) ∧ NatsAt w a (kidsN (pa26 l) N k)
theorem Rd26.below {w w1 : World} {l : List N26} {N gL : Nat} (h : Rd26 w l N gL) (hb : Below w.heap.size w w1) : Rd26 w1 l N gL := by
  have c : ∀ o, w1.cell? ⟨gL, o, none⟩ = w.cell? ⟨gL, o, none⟩ := fun o => hb.cell (p := ⟨gL, o, none⟩) h.zL
  refine ⟨Nat.lt_of_lt_of_le h.zL hb.size, fun k hk => (c _).trans (h.z k hk), fun k hk => (c _).trans (h.au k hk), fun k hk => (c _).trans (h.pos k hk), fun k hk => (c _).trans (h.ov k hk), fun k hk => (c _).trans (h.tx k hk), fun k hk => (c _).trans (h.par k hk), fun k hk => ?_⟩
  obtain ⟨a, cc, h1, h2⟩ := h.kids k hk
  exact ⟨a, cc, (c _).trans h1, h2.below hb⟩
theorem M26.rd {l : List N26} {w0 w : World} {pt bm m bn N cL : Nat} {B : Nat → BlkT} {aL : Option Addr} {R : Rows} {f : Nat → RowT} {O : Nat → Prop} (h : M26 l w0 w pt bm m B bn N N N N aL cL R f O) (hN : 0 < N) :
    ∃ gL, aL = some ⟨gL, 0, none⟩ ∧ Rd26 w l N gL := by
  have r0 := h.wd.fam.row 0 (by omega)
  rw [h.f0] at r0
  dsimp only at r0
  obtain ⟨_, _, e0, _, _, c0⟩ := row_reads r0
  cases e0
  obtain ⟨gL, q0, _, z0, k0⟩ := c0 hN
  refine ⟨gL, q0, z0, fun k hk => ?_, fun k hk => ?_, fun k hk => ?_, fun k hk => ?_, fun k hk => ?_, fun k hk => ?_, fun k hk => ?_⟩
  · exact k0 _ _ ((rng_get (s := 65) (fun k => nodeC_len _ _ _ _ _ _ _) (by omega) hk).trans rfl)
  · exact k0 _ _ ((rng_get (s := 65) (fun k => nodeC_len _ _ _ _ _ _ _) (by omega) hk).trans rfl)
  · exact k0 _ _ ((rng_get (s := 65) (fun k => nodeC_len _ _ _ _ _ _ _) (by omega) hk).trans rfl)
  · exact k0 _ _ ((rng_get (s := 65) (fun k => nodeC_len _ _ _ _ _ _ _) (by omega) hk).trans rfl)
  · exact k0 _ _ ((rng_get (s := 65) (fun k => nodeC_len _ _ _ _ _ _ _) (by omega) hk).trans rfl)
  · exact k0 _ _ ((rng_get (s := 65) (fun k => nodeC_len _ _ _ _ _ _ _) (by omega) hk).trans rfl)
  · obtain ⟨v, hv⟩ := h.fk k hk
    have rk := h.wd.fam.row (1 + k) (by omega)
    rw [hv] at rk
    dsimp only at rk
    have hc := k0 (k * 65 + 63) v ((rng_get (s := 65) (fun k => nodeC_len _ _ _ _ _ _ _) (by omega) hk).trans (by rw [hv]; rfl))
    obtain ⟨a, c, e, _, _, hr⟩ := row_reads rk
    rw [kidsZ_eq, List.length_map] at e
    rw [kidsZ_eq] at hr
    subst e
    refine ⟨a, c, hc, fun h0 => ?_⟩
    obtain ⟨g, e1, _, e2, e3⟩ := hr (by rw [List.length_map]; exact h0)
    exact ⟨g, e1, e2, fun j hj => e3 j _ (by rw [intVals_nat]; exact natVals_get hj)⟩
set_option maxRecDepth 100000 in
set_option maxHeartbeats 1000000 in
theorem rctx_any (gL N cL n : Nat) (l : List N26) (w : World) (hN : N ≤ 60) (hn : n < N) (h : Rd26 w l N gL) :
    Calls Try.prog 21 #[.agg #[.slice (some ⟨gL, 0, none⟩) N cL, .int .i64 0, .int .i64 0], .int .i64 n] w fun e w' => e = .returned (.bool (ctx26 l n)) ∧ Below w.heap.size w w' := by
  have oL : Old w gL := h.zL
  have lL := h.zL
  have q1 := h.tx n hn
  have q2 := h.pos n hn
  have q3 := h.au n hn
  have hnI : (n : Int) < N := by omega
  have hn0 : (0 : Int) ≤ n := by omega
  clear h
  rcases Nat.eq_zero_or_pos n with c | c
  · subst c
    go_enter Try.func21, Try.ntmps21
    go_wp2_with fail
    go_ret
    exact ⟨rfl, by (repeat' (first | (with_reducible exact Below.refl _ _) | (with_reducible assumption) | (with_reducible refine below_from_drew ?_) | (with_reducible refine Below.alloc ?_ ?_ _) | (with_reducible refine Below.drew ?_) | (with_reducible refine below_drewN ?_ _) | (with_reducible refine Below.setCell ?_ ?_ _) | (with_reducible refine below_via ?_ (by assumption) ?_) | (with_reducible refine below_ov ?_ ?_ _ _) | go_size))⟩
  · have hkn : ¬ (n : Int) = 0 := by omega
    have hkb : ((n : Int) == 0) = false := by simpa using hkn
    have he := ctx26_pos l c
    rcases ht : tx26 l n with _ | _
    · rw [ht] at q1 he
      by_cases hp : (nd26 l n).pos % 3 = 0
      · rw [hp] at q2
        rw [decide_eq_false (fun q => q hp)] at he
        have HE := Lib.hid he
        clear he hp ht
        go_enter Try.func21, Try.ntmps21
        go_wp2_with fail
        go_ret
        exact ⟨by rw [HE.out]; rfl, by (repeat' (first | (with_reducible exact Below.refl _ _) | (with_reducible assumption) | (with_reducible refine below_from_drew ?_) | (with_reducible refine Below.alloc ?_ ?_ _) | (with_reducible refine Below.drew ?_) | (with_reducible refine below_drewN ?_ _) | (with_reducible refine Below.setCell ?_ ?_ _) | (with_reducible refine below_via ?_ (by assumption) ?_) | (with_reducible refine below_ov ?_ ?_ _ _) | go_size))⟩
      · rw [decide_eq_true hp] at he
        have HE := Lib.hid he
        have hp1 : ¬ 1 + (nd26 l n).pos % 3 = 1 := by omega
        have hpb : (1 + (nd26 l n).pos % 3 != 1) = true := by simpa using hp1
        generalize 1 + (nd26 l n).pos % 3 = P at q2 hp1 hpb
        clear he hp ht
        rcases ha : (nd26 l n).au with _ | _
        · rw [ha] at q3 HE
          clear ha
          go_enter Try.func21, Try.ntmps21
          go_wp2_with fail
          go_ret
          exact ⟨by rw [HE.out]; rfl, by (repeat' (first | (with_reducible exact Below.refl _ _) | (with_reducible assumption) | (with_reducible refine below_from_drew ?_) | (with_reducible refine Below.alloc ?_ ?_ _) | (with_reducible refine Below.drew ?_) | (with_reducible refine below_drewN ?_ _) | (with_reducible refine Below.setCell ?_ ?_ _) | (with_reducible refine below_via ?_ (by assumption) ?_) | (with_reducible refine below_ov ?_ ?_ _ _) | go_size))⟩
        · rw [ha] at q3 HE
          clear ha
          go_enter Try.func21, Try.ntmps21
          go_wp2_with fail
          go_ret
          exact ⟨by rw [HE.out]; rfl, by (repeat' (first | (with_reducible exact Below.refl _ _) | (with_reducible assumption) | (with_reducible refine below_from_drew ?_) | (with_reducible refine Below.alloc ?_ ?_ _) | (with_reducible refine Below.drew ?_) | (with_reducible refine below_drewN ?_ _) | (with_reducible refine Below.setCell ?_ ?_ _) | (with_reducible refine below_via ?_ (by assumption) ?_) | (with_reducible refine below_ov ?_ ?_ _ _) | go_size))⟩
    · rw [ht] at q1 he
      have HE := Lib.hid he
      clear he ht
      go_enter Try.func21, Try.ntmps21
      go_wp2_with fail
      go_ret
      exact ⟨by rw [HE.out]; rfl, by (repeat' (first | (with_reducible exact Below.refl _ _) | (with_reducible assumption) | (with_reducible refine below_from_drew ?_) | (with_reducible refine Below.alloc ?_ ?_ _) | (with_reducible refine Below.drew ?_) | (with_reducible refine below_drewN ?_ _) | (with_reducible refine Below.setCell ?_ ?_ _) | (with_reducible refine below_via ?_ (by assumption) ?_) | (with_reducible refine below_ov ?_ ?_ _ _) | go_size))⟩
end Go.Proofs.Ytjcbphhemmdnjaa
