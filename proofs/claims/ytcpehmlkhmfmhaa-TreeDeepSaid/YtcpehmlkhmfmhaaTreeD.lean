/- slices.IndexFunc, slices.DeleteFunc with tree.without's closure; tree.without. -/
import Derived.Test.YtcpehmlkhmfmhaaTreeC
import Derived.Laws.CopyOwn
namespace Go.Proofs.Ytcpehmlkhmfmhaa
open Go.RowKit
set_option linter.unusedSimpArgs false
set_option linter.unusedVariables false
-- below_from_drew
attribute [local go_sem] ov_cell_same ov_cell_other ov_frozen_same ov_frozen_other ov_size ov_setCell_same ov_setCell_other cell_alloc_old frozen_alloc_old setCell_alloc_old old_alloc old_ov old_drew old_drewN old_setCell
attribute [local go_sem ↓] run_max2 run_min2

/-- All but one number. -/
def outL (n : Int) : List Int → List Int
  | [] => []
  | x :: l => if x = n then outL n l else x :: outL n l
theorem outL_append (n : Int) : ∀ a b, outL n (a ++ b) = outL n a ++ outL n b
  | [], b => rfl
  | x :: a, b => by
    show (if x = n then outL n (a ++ b) else x :: outL n (a ++ b)) = (if x = n then outL n a else x :: outL n a) ++ outL n b
    rw [outL_append n a b]; split <;> rfl
theorem outL_none {n : Int} : ∀ {l : List Int}, n ∉ l → outL n l = l
  | [], _ => rfl
  | x :: l, h => by
    simp only [List.mem_cons, not_or] at h
    show (if x = n then _ else _) = _
    rw [if_neg (Ne.symm h.1), outL_none h.2]
theorem outL_len (n : Int) : ∀ l, (outL n l).length ≤ l.length
  | [] => Nat.le_refl _
  | x :: l => by
    show (if x = n then outL n l else x :: outL n l).length ≤ l.length + 1
    have := outL_len n l
    split <;> simp <;> omega
theorem outL_snoc (n x : Int) (l : List Int) : outL n (l ++ [x]) = if x = n then outL n l else outL n l ++ [x] := by
  rw [outL_append]
  show outL n l ++ (if x = n then [] else [x]) = _
  split <;> simp
theorem take_snoc {l : List Int} {j : Nat} (h : j < l.length) : l.take (j + 1) = l.take j ++ [l.getD j 0] := by
  rw [List.take_succ_eq_append_getElem h]
  simp [List.getD_eq_getElem?_getD, h]
theorem setCells_ov {u : World} {b : Nat} {T : TypeId} : ∀ (vs : List Value) (o : Nat) (cs : Array Value), ∃ cs' : Array Value, (ov u b cs T).setCells b o vs = ov u b cs' T ∧ cs'.size = cs.size ∧ ∀ j, j < o → cs'[j]? = cs[j]?
  | [], o, cs => ⟨cs, rfl, rfl, fun _ _ => rfl⟩
  | v :: vs, o, cs => by
    obtain ⟨cs', h1, h2, h3⟩ := setCells_ov (u := u) (b := b) (T := T) vs (o + 1) (cs.setIfInBounds o v)
    refine ⟨cs', ?_, by rw [h2]; simp, fun j hj => ?_⟩
    · rw [← h1, ← ov_setCell_same]; rfl
    · rw [h3 j (by omega), Array.getElem?_setIfInBounds_ne (by omega)]
theorem setCell_ov {u : World} {b o : Nat} {cs : Array Value} {T : TypeId} {v : Value} : (ov u b cs T).setCell ⟨b, o, none⟩ v = ov u b (cs.setIfInBounds o v) T := ov_setCell_same
set_option maxRecDepth 100000 in
theorem wo1_any (q : Nat) (k n : Int) (w : World) (h : w.cell? ⟨q, 0, none⟩ = some (.int .i64 n)) :
    Calls Try.prog 79 #[.int .i64 k, .pointer (some ⟨q, 0, none⟩)] w fun e w' => e = .returned (.bool (k == n)) ∧ w = w' := by
  go_enter Try.func79, Try.ntmps79
  go_wp2_with fail
  go_ret
  exact ⟨rfl, rfl⟩
/-- The first place of a number. -/
def FirstAt (n : Int) (ys : List Int) (r : Int) : Prop := (r = -1 ∧ n ∉ ys) ∨ ∃ i : Nat, r = (i : Int) ∧ i < ys.length ∧ ys.getD i 0 = n ∧ ∀ j, j < i → ys.getD j 0 ≠ n
set_option maxRecDepth 100000 in
set_option maxHeartbeats 1000000 in
theorem index_any (q : Nat) (a : Option Addr) (k c : Nat) (n : Int) (ys : List Int) (w : World) (hk : ys.length = k) (hm : k ≤ 1000000) (hI : IntsAt w a ys) (h : w.cell? ⟨q, 0, none⟩ = some (.int .i64 n)) :
    Calls Try.prog 101 #[.slice a k c, .func (Fn.func 79) #[] #[.pointer (some ⟨q, 0, none⟩)]] w fun e w' => ∃ r, e = .returned (.int .i64 r) ∧ FirstAt n ys r ∧ w = w' := by
  have HI := Lib.hid hI; have HK := Lib.hid hk; have HQ := Lib.hid h
  clear hI hk h
  go_enter Try.func101, Try.ntmps101
  go_wp2_with fail
  go_loopw [8] (fun iv wr => ∃ i : Nat, iv = .int .i64 (i : Int) ∧ i ≤ k ∧ (∀ j, j < i → ys.getD j 0 ≠ n) ∧ wr = w) (fun iv _ => k - (intOf iv).toNat)
  case atStart => exact ⟨0, rfl, Nat.zero_le _, fun j hj => by omega, rfl⟩
  case round =>
    obtain ⟨i, rfl, hi, hall, hw⟩ := hrel
    obtain rfl : w = wr := hw.symm
    have HA := Lib.hid hall; clear hall
    rcases Nat.lt_or_ge i k with c1 | c1
    · have c2 : (i : Int) < k := by omega
      obtain ⟨b, off, rfl, hb, hc⟩ := HI.out (by rw [HK.out]; omega)
      have g1 := hc i (by rw [HK.out]; exact c1)
      clear hc
      generalize hx : ys.getD i 0 = x at *
      have HX := Lib.hid hx; clear hx
      by_cases hxn : x = n
      · have e1 : (x == n) = true := by simp [hxn]
        go_wp2_with ((go_at_call 79; (with_reducible refine (wo1_any q _ n _ HQ.out).mono ?_); rintro e w1 ⟨rfl, rfl⟩))
        go_ret
        exact ⟨(i : Int), rfl, .inr ⟨i, rfl, by rw [HK.out]; exact c1, by rw [HX.out]; exact hxn, HA.out⟩, rfl⟩
      · have e1 : (x == n) = false := by simp [hxn]
        have HXN := Lib.hid hxn; clear hxn
        go_wp2_with ((go_at_call 79; (with_reducible refine (wo1_any q _ n _ HQ.out).mono ?_); rintro e w1 ⟨rfl, rfl⟩))
        go_roundw
        case rel => exact ⟨i + 1, by go_num, by omega, fun j hj => by
          by_cases e : j = i
          · rw [e, HX.out]; exact HXN.out
          · exact HA.out j (by omega), trivial⟩
        case measure => simp [intOf]; omega
    · obtain rfl : i = k := by omega
      have c2 : decide ((i : Int) < i) = false := by simp
      go_wp2_with fail
      go_ret
      refine ⟨-1, rfl, .inl ⟨rfl, fun hmem => ?_⟩, rfl⟩
      obtain ⟨j, hj, e⟩ := List.getElem_of_mem hmem
      exact HA.out j (by rw [← HK.out]; exact hj) (by simp [List.getD_eq_getElem?_getD, hj, e])
/-- The loop that moves what stays to the front. -/
def DelI (n : Int) (ys : List Int) (u : World) (g : Nat) (sz : Nat) (iv jv : Value) (wr : World) : Prop :=
  ∃ (j : Nat) (cs : Array Value), j ≤ ys.length ∧ jv = .int .i64 (j : Int) ∧ iv = .int .i64 (((outL n (ys.take j)).length : Nat) : Int) ∧ (outL n (ys.take j)).length < j ∧ cs.size = sz ∧ (∀ t, t < (outL n (ys.take j)).length → cs[t]? = some (.int .i64 ((outL n (ys.take j)).getD t 0))) ∧ (∀ t, j ≤ t → t < ys.length → cs[t]? = some (.int .i64 (ys.getD t 0))) ∧ wr = ov u g cs 3
theorem zero_int (w : World) : (zeroValue 3).run Try.prog w = .ok (.int .i64 0) w := by kernel_rfl
set_option maxRecDepth 100000 in
set_option maxHeartbeats 4000000 in
theorem delete_any (q g k c base : Nat) (n : Int) (cur : Array Value) (ys : List Int) (w : World) (hk : ys.length = k) (hkc : k ≤ c) (hm : k ≤ 1000000) (hmc : c ≤ 9223372036854775807) (hg : Has w g cur 3) (hsz : cur.size = c) (hcur : ∀ j, j < k → cur[j]? = some (.int .i64 (ys.getD j 0))) (hbg : base ≤ g) (hbw : base ≤ w.heap.size) (hq : w.cell? ⟨q, 0, none⟩ = some (.int .i64 n)) (hql : q < w.heap.size) (hqg : q ≠ g) :
    Calls Try.prog 78 #[.slice (some ⟨g, 0, none⟩) k c, .func (Fn.func 79) #[] #[.pointer (some ⟨q, 0, none⟩)]] w fun e w' => ∃ cs, e = .returned (.slice (some ⟨g, 0, none⟩) (outL n ys).length c) ∧ Has w' g cs 3 ∧ (∀ j, j < (outL n ys).length → cs[j]? = some (.int .i64 ((outL n ys).getD j 0))) ∧ But g w.heap.size w w' := by
  have hidx := index_any q (some ⟨g, 0, none⟩) k c n ys w hk hm (intsAt_has hg (fun i hi => hcur i (by omega))) hq
  have HX := Lib.hid hidx; have HG := Lib.hid hg; have HQ := Lib.hid hq; have HK := Lib.hid hk; have HC := Lib.hid hcur; have HSZ := Lib.hid hsz
  have hl := hg.lt
  clear hidx hg hq hk hcur hsz
  go_enter Try.func78, Try.ntmps78
  go_wp2_with fail
  refine HX.out.mono ?_
  rintro e w1 ⟨r, rfl, hr, hw⟩
  obtain rfl : w = w1 := hw
  rcases hr with ⟨rfl, hno⟩ | ⟨i, rfl, hi, hat, hall⟩
  · have HNO := Lib.hid (outL_none hno); clear hno
    go_wp2_with fail
    go_ret
    exact ⟨cur, by rw [HNO.out, HK.out]; rfl, HG.out, fun j hj => by rw [HNO.out] at hj ⊢; exact HC.out j (by rw [← HK.out]; exact hj), But.refl _ _ _⟩
  · have hi0 : ((i : Int) == -1) = false := by simp
    have hik : i < k := by rw [← HK.out]; exact hi
    have hpre : outL n (ys.take i) = ys.take i := outL_none (fun hmem => by
      obtain ⟨j, hj, e⟩ := List.getElem_of_mem hmem
      rw [List.getElem_take] at e
      have hjj : j < i ∧ j < ys.length := by simp at hj; omega
      exact hall j hjj.1 (by simp [List.getD_eq_getElem?_getD, hjj.2, e]))
    have h1 : outL n (ys.take (i + 1)) = ys.take i := by rw [take_snoc hi, outL_snoc, if_pos hat, hpre]
    have hl1 : (ys.take i).length = i := by rw [List.length_take]; omega
    have HPRE := Lib.hid h1
    have hov := ov_self HG.out
    have hstart : DelI n ys w g cur.size (.int .i64 (i : Int)) (.int .i64 ((i : Int) + 1)) w := by
      refine ⟨i + 1, cur, by omega, by go_num, by rw [h1, hl1], by rw [h1, hl1]; omega, rfl, fun t ht => ?_, fun t ht ht2 => HC.out t (by rw [← HK.out]; exact ht2), hov.symm⟩
      rw [h1, hl1] at ht
      rw [HC.out t (by omega), h1]
      simp [List.getD_eq_getElem?_getD, ht]
    have HST := Lib.hid hstart
    clear hall hat hpre h1 hov hstart hi
    go_wp2_with fail
    go_loopw [5, 6] (fun iv jv wr => DelI n ys w g cur.size iv jv wr) (fun _ jv _ => k - (intOf jv).toNat)
    case atStart => exact HST.out
    case round =>
      unfold DelI at hrel
      obtain ⟨j, cs, hj, rfl, rfl, hlt, hcs, hfront, hback, rfl⟩ := hrel
      rw [HK.out] at hj
      have HF := Lib.hid hfront; have HBK := Lib.hid hback; have HCS := Lib.hid hcs
      have hq2 : (ov w g cs 3).cell? ⟨q, 0, none⟩ = some (.int .i64 n) := (ov_cell_other (fun e => hqg (by cases e; rfl))).trans HQ.out
      have HQ2 := Lib.hid hq2
      clear hfront hback hcs hq2
      rcases Nat.lt_or_ge j k with c1 | c1
      · have c2 : (j : Int) < k := by omega
        have g1 := HBK.out j (Nat.le_refl _) (by rw [HK.out]; exact c1)
        have hsn := outL_snoc n (ys.getD j 0) (ys.take j)
        rw [← take_snoc (by rw [HK.out]; exact c1)] at hsn
        have g2 : ∃ v, cs[(outL n (ys.take j)).length]? = some v := ⟨cs[(outL n (ys.take j)).length]'(by rw [HCS.out, HSZ.out]; omega), Array.getElem?_eq_getElem _⟩
        obtain ⟨v, g2⟩ := g2
        have hxj : ys[j]?.getD 0 = ys.getD j 0 := rfl
        generalize hx : ys.getD j 0 = x at *
        have HXX := Lib.hid hx; clear hx hxj
        generalize hZ : outL n (ys.take j) = Z at *
        have HZ := Lib.hid hZ; clear hZ
        generalize hi2 : Z.length = i2 at *
        have HI2 := Lib.hid hi2; clear hi2
        have d1 : (i2 : Int) < k := by omega
        by_cases hxn : x = n
        · rw [if_pos hxn] at hsn
          have e1 : (x == n) = true := by simp [hxn]
          have HSN := Lib.hid hsn; clear hsn g2
          go_wp2_with ((go_at_call 79; (with_reducible refine (wo1_any q _ n _ HQ2.out).mono ?_); rintro e w1 ⟨rfl, rfl⟩))
          go_roundw
          case rel => unfold DelI; exact ⟨j + 1, cs, by rw [HK.out]; omega, by go_num, by rw [HSN.out, HI2.out], by rw [HSN.out, HI2.out]; omega, HCS.out, by rw [HSN.out, HI2.out]; exact HF.out, fun t h1 h2 => HBK.out t (by omega) h2, rfl⟩
          case measure => simp [intOf]; omega
        · rw [if_neg hxn] at hsn
          have e1 : (x == n) = false := by simp [hxn]
          have HSN := Lib.hid hsn; have HXN := Lib.hid hxn; have HG2 := Lib.hid g2; clear hsn hxn
          go_wp2_with ((go_at_call 79; (with_reducible refine (wo1_any q _ n _ HQ2.out).mono ?_); rintro e w1 ⟨rfl, rfl⟩))
          go_roundw
          case rel =>
            unfold DelI
            have hl : (outL n (ys.take (j + 1))).length = i2 + 1 := by rw [HSN.out]; simp [HI2.out]
            refine ⟨j + 1, cs.setIfInBounds i2 (.int .i64 x), by rw [HK.out]; omega, by go_num, by rw [hl]; go_num, by rw [hl]; omega, by simp [HCS.out], fun t ht => ?_, fun t h1 h2 => ?_, rfl⟩
            · rw [hl] at ht
              rw [Array.getElem?_setIfInBounds, HSN.out]
              by_cases e : i2 = t
              · subst e
                rw [if_pos rfl, if_pos (by rw [HCS.out, HSZ.out]; omega)]
                simp [List.getD_eq_getElem?_getD, ← HI2.out]
              · rw [if_neg e, HF.out t (by omega)]
                simp [List.getD_eq_getElem?_getD, List.getElem?_append_left (show t < Z.length by rw [HI2.out]; omega)]
            · rw [Array.getElem?_setIfInBounds_ne (by omega)]
              exact HBK.out t (by omega) h2
          case measure => simp [intOf]; omega
      · obtain rfl : j = k := by omega
        have c2 : decide ((j : Int) < j) = false := by simp
        have hall : ys.take j = ys := List.take_of_length_le (by rw [HK.out]; exact Nat.le_refl _)
        rw [hall] at HF hlt
        rw [hall]
        generalize hZ : outL n ys = Z at *
        have HZ := Lib.hid hZ; clear hZ hall
        generalize hi2 : Z.length = i2 at *
        have HI2 := Lib.hid hi2; clear hi2
        have hcl := fun ty => Lib.run_clear_slice (P := Try.prog) (ov w g cs 3) 44 3 ty (.int .i64 0) Try.underlying44 zero_int rfl rfl g i2 (j - i2) (c - i2) (by omega) (fun t ht => by
          rw [ov_cell_same hl, Array.getElem?_eq_getElem (show i2 + t < cs.size by rw [HCS.out, HSZ.out]; omega)]; rfl) (fun t ht => ov_frozen_same hl)
        obtain ⟨cs', k1, k2, k3⟩ := setCells_ov (u := w) (b := g) (T := 3) (List.replicate (j - i2) (.int .i64 0)) i2 cs
        simp only [k1] at hcl
        have hh : Has (ov w g cs' 3) g cs' 3 := has_ov_same hl
        have d1 : (i2 : Int) ≤ j := by omega
        have d2 : (j : Int) - i2 = ((j - i2 : Nat) : Int) := by omega
        have d3 : (c : Int) - i2 = ((c - i2 : Nat) : Int) := by omega
        have K3 := Lib.hid k3; have HH := Lib.hid hh
        clear k1 k2 k3 hh
        go_wp2_with fail
        go_ret
        exact ⟨cs', by rw [HZ.out, HI2.out]; rfl, HH.out, fun t ht => by
          rw [HZ.out] at ht ⊢
          rw [HI2.out] at ht
          rw [K3.out t ht]; exact HF.out t ht, (But.refl _ _ _).ovs _ _⟩
set_option maxRecDepth 100000 in
theorem delete_nil (q : Nat) (n : Int) (w : World) (hq : w.cell? ⟨q, 0, none⟩ = some (.int .i64 n)) :
    Calls Try.prog 78 #[.slice none 0 0, .func (Fn.func 79) #[] #[.pointer (some ⟨q, 0, none⟩)]] w fun e w' => e = .returned (.slice none 0 0) ∧ w = w' := by
  have HX := Lib.hid (index_any q none 0 0 n [] w rfl (by omega) (intsAt_nil _ _) hq)
  clear hq
  go_enter Try.func78, Try.ntmps78
  go_wp2_with fail
  refine HX.out.mono ?_
  rintro e w1 ⟨r, rfl, hr, hw⟩
  obtain rfl : w = w1 := hw
  obtain rfl : r = -1 := by
    rcases hr with ⟨h, _⟩ | ⟨i, _, hi, _⟩
    · exact h
    · simp at hi
  go_wp2_with fail
  go_ret
  exact ⟨rfl, rfl⟩
/-- An owned row, its cells written out. -/
theorem row_cells {w : World} {base n cap : Nat} {T : TypeId} {a : Option Addr} {xs : List Int} (h : w.ownsRow base T 1 (.slice a n cap) n (intVals xs)) : (a = none ∧ n = 0 ∧ cap = 0 ∧ xs = []) ∨ ∃ g cur, a = some ⟨g, 0, none⟩ ∧ base ≤ g ∧ Has w g cur T ∧ n ≤ cap ∧ cap ≤ 9223372036854775807 ∧ cur.size = cap ∧ xs.length = n ∧ ∀ j, j < n → cur[j]? = some (.int .i64 (xs.getD j 0)) := by
  have hl : xs.length = n := by have := h.1; simpa [intVals] using this
  rcases h.2 with ⟨h1, h2⟩ | ⟨g, cap', cur, h1, h2, h3, h4, h5, h6, h7⟩
  · cases h1
    exact .inl ⟨rfl, rfl, rfl, List.eq_nil_of_length_eq_zero hl⟩
  · cases h1
    refine .inr ⟨g, cur, rfl, h2, h3, h4, by simpa [maxLen] using h5, by simpa using h6, hl, fun j hj => ?_⟩
    have hj2 := intVals_get (xs := xs) (i := j) (by omega)
    rw [← h7, List.getElem?_take_of_lt (by omega), Array.getElem?_toList] at hj2
    exact hj2
set_option maxRecDepth 100000 in
theorem delete_row (q base : Nat) (a : Option Addr) (k c : Nat) (n : Int) (ys : List Int) (w : World) (hm : k ≤ 1000000) (hown : w.ownsRow base 3 1 (.slice a k c) k (intVals ys)) (hq : w.cell? ⟨q, 0, none⟩ = some (.int .i64 n)) (hql : q < w.heap.size) (hqb : q < base) :
    Calls Try.prog 78 #[.slice a k c, .func (Fn.func 79) #[] #[.pointer (some ⟨q, 0, none⟩)]] w fun e w' => ∃ a' c', e = .returned (.slice a' (outL n ys).length c') ∧ (outL n ys).length ≤ c' ∧ IntsAt w' a' (outL n ys) ∧ (∀ b off, a' = some ⟨b, off, none⟩ → base ≤ b) ∧ ButS (fun b => base ≤ b) w.heap.size w w' := by
  rcases row_cells hown with ⟨rfl, rfl, rfl, rfl⟩ | ⟨g, cur, rfl, hg, hh, hnc, hcm, hsz, hl, hcs⟩
  · refine (delete_nil q n w hq).mono ?_
    rintro e w' ⟨rfl, rfl⟩
    exact ⟨none, 0, rfl, Nat.le_refl _, intsAt_nil _ _, fun b off e => (by cases e), ButS.refl _ _ _⟩
  · refine (delete_any q g k c base n cur ys w hl hnc hm hcm hh hsz hcs hg (by have := hh.lt; omega) hq hql (by omega)).mono ?_
    rintro e w' ⟨cs, rfl, h1, h2, h3⟩
    have hlen := outL_len n ys
    exact ⟨_, _, rfl, by omega, intsAt_has h1 h2, fun b off e => (by cases e; exact hg), ⟨h3.os, h3.tape, h3.output, h3.size, fun i hi hn => h3.block i hi (fun e => hn (by rw [e]; exact hg))⟩⟩
set_option maxRecDepth 100000 in
set_option maxHeartbeats 1000000 in
theorem without_any (a : Option Addr) (k c : Nat) (n : Int) (ys : List Int) (w : World) (hk : ys.length = k) (hm : k ≤ 1000000) (hI : IntsAt w a ys) :
    Calls Try.prog 57 #[.slice a k c, .int .i64 n] w fun e w' => ∃ a' c', e = .returned (.slice a' (outL n ys).length c') ∧ (outL n ys).length ≤ c' ∧ IntsAt w' a' (outL n ys) ∧ (∀ b off, a' = some ⟨b, off, none⟩ → w.heap.size ≤ b) ∧ Below w.heap.size w w' := by
  have HI := Lib.hid hI
  clear hI
  go_enter Try.func57, Try.ntmps57
  go_wp2_with (first | (go_at_call 51; (with_reducible refine (clone_any a k c ys _ hk hm (HI.out.below (by (repeat' (first | (with_reducible exact Below.refl _ _) | (with_reducible assumption) | (with_reducible refine below_from_drew ?_) | (with_reducible refine Below.alloc ?_ ?_ _) | (with_reducible refine Below.drew ?_) | (with_reducible refine below_drewN ?_ _) | (with_reducible refine Below.setCell ?_ ?_ _) | (with_reducible refine below_via ?_ (by assumption) ?_) | (with_reducible refine below_ov ?_ ?_ _ _) | go_size))))).mono ?_); rintro e w1 ⟨a1, c1, rfl, hc1, hown, hb⟩; have HOWN := Lib.hid hown; have HB := Lib.hid hb; have hq := has_cell (has_below hb (has_new rfl)) (o := 0) rfl; have HQ := Lib.hid hq; have HQL := Lib.hid (has_below hb (has_new rfl)).lt; clear hown hb hq) | (go_at_call 78; (with_reducible refine (delete_row w.heap.size (w.heap.size + 1) a1 k c1 n ys _ hm (by have q := HOWN.out; simpa using q) HQ.out HQL.out (Nat.lt_succ_self _)).mono ?_); rintro e w2 ⟨a2, c2, rfl, hc2, hI2, hf2, hb2⟩; have HI2 := Lib.hid hI2; have HF2 := Lib.hid hf2; have HB2 := Lib.hid hb2; clear hI2 hf2 hb2))
  go_ret
  refine ⟨a2, c2, rfl, hc2, HI2.out, fun b off e => (by have := HF2.out b off e; omega), ?_⟩
  have hb1 : Below w.heap.size w w1 := below_via (by (repeat' (first | (with_reducible exact Below.refl _ _) | (with_reducible assumption) | (with_reducible refine below_from_drew ?_) | (with_reducible refine Below.alloc ?_ ?_ _) | (with_reducible refine Below.drew ?_) | (with_reducible refine below_drewN ?_ _) | (with_reducible refine Below.setCell ?_ ?_ _) | (with_reducible refine below_via ?_ (by assumption) ?_) | (with_reducible refine below_ov ?_ ?_ _ _) | go_size))) HB.out (by simp)
  have hs1 := HB.out.size
  simp only [World.size_alloc] at hs1
  have hb3 : Below w.heap.size w1 w2 := (HB2.out.less (by omega)).below (fun b hb q => by omega)
  exact hb1.trans hb3
end Go.Proofs.Ytcpehmlkhmfmhaa
