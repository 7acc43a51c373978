/- law23 (scroll): plain steps of the maker's last part. -/
import Derived.Test.YtjcbphhemmdnjaaScrA
import Derived.Test.YtjcbphhemmdnjaaPh2
import Derived.Deep.MidRow
namespace Go.Proofs.Ytjcbphhemmdnjaa
open Go Go.RowKit
set_option linter.unusedSimpArgs false
set_option linter.unusedVariables false
set_option maxRecDepth 100000 in
theorem infoN23 : (Try.prog.info? 68).map (fun i => (i.zero, i.size, i.bytes)) = some (some (.agg (nodeC 0 false 0 0 false (.slice none 0 0) 0).toArray), 65, 552) := by kernel_rfl
set_option maxRecDepth 100000 in
theorem infoB23 : (Try.prog.info? 44).map (fun i => (i.zero, i.size, i.bytes)) = some (some (.agg (box18 false 0 0 0 0 0 (.slice none 0 0)).toArray), 18, 160) := by kernel_rfl
theorem at_has {W : World} {g : Nat} {cs : List Value} {T : TypeId} (h : Has W g cs.toArray T) : ∀ j u, cs[j]? = some u → W.cell? ((⟨g, 0, none⟩ : Addr).add j) = some u := fun j u hj => by
  rw [Addr.add_lit, Nat.zero_add, h.cells j, List.getElem?_toArray]
  exact hj
theorem alloc_has {S : Nat → Prop} {n : Nat} {Q W : World} (h : ButS S n Q W) (cs : Array Value) (T : TypeId) : Has (W.alloc (.cells cs T)) W.heap.size cs T := has_new rfl
theorem grown_as {w w' : World} {r r' : Option Nat} (h : w.grownBy w' r) (e : r = r') : w.grownBy w' r' := e ▸ h
theorem byV_one (l : List N23) (i b : Nat) : allOne (byV l i b) = true := by unfold byV; split <;> rfl
theorem exec_slY {ρ : Operand → Value} {d : Option Tmp} {t : TypeId} {x : Operand} {po : String} {af : Array Edge} {g : Option (Nat × Bool)} (w : World) : (execOp ρ ⟨d, .buildSlice 30 1 #[(0, x)], t, po, af, g⟩).run Try.prog w = runBuildSl Try.prog 30 1 #[(0, ρ x)] w := exec_buildSl1 w
set_option maxRecDepth 100000 in
theorem runSlB18 (t : Bool) (x y w h b : Int) (pa : Option Addr) (n c : Nat) (W : World) : runBuildSl Try.prog 30 1 #[(0, .agg (box18 t x y w h b (.slice pa n c)).toArray)] W = .ok (.value (.slice (some ⟨W.heap.size, 0, none⟩) 1 1)) (W.alloc (.cells (box18 t x y w h b (.slice pa n c)).toArray 44)) := by kernel_rfl
theorem runSlY (l : List N23) (i b : Nat) (W : World) : runBuildSl Try.prog 30 1 #[(0, .agg (byV l i b).toArray)] W = .ok (.value (.slice (some ⟨W.heap.size, 0, none⟩) 1 1)) (W.alloc (.cells (byV l i b).toArray 44)) := by
  unfold byV; split
  · exact runSlB18 _ _ _ _ _ _ _ _ _ _
  · exact runSlB18 _ _ _ _ _ _ _ _ _ _
theorem bxV_len (l : List N23) (i b : Nat) : (bxV l i b).length = 17 := by unfold bxV; split <;> rfl
section
variable {l : List N23} {w0 w w' : World} {pt bm m bn bx gn gb nk j n0 n1 nz np cL c1 : Nat} {B : Nat → BlkT} {g : Nat → Nat × Nat} {aL a1 : Option Addr} {R : Rows} {f : Nat → RowT} {O : Nat → Prop}
/-- The world's rows as they stand. -/
theorem M23.row0 (h : M23 l w0 w pt bm m B bn bx g gn gb nk j n0 n1 nz np aL cL a1 c1 R f O) (h1 : n0 < nk) (hf : f (2 + n0) = ⟨3, 1, .slice none 0 0, 0, []⟩) : w.ownsRow w0.heap.size 68 65 (.slice aL n0 cL) n0 (rng (fun i => V23 l i (f (2 + i)).v) n0) := by
  have := h.mt.wd.fam.row 0 (by omega)
  rw [h.mt.f0] at this
  exact this
theorem M23.row1 (h : M23 l w0 w pt bm m B bn bx g gn gb nk j n0 n1 nz np aL cL a1 c1 R f O) : w.ownsRow w0.heap.size 44 18 (.slice a1 n1 c1) n1 (rng (wV l g nz) n1) := by
  have := h.mt.wd.fam.row 1 (by omega)
  rw [h.f1] at this
  exact this
/-- Cells written into a row. -/
theorem Wd.sets {w0 : World} {pt bm n m k : Nat} {R : Rows} {next : Int} {B : Nat → BlkT} {M : Nat → MapT} {q g c : Nat} (hq : q < n) : ∀ (vs : List Value) (j : Nat) (w : World) (f : Nat → RowT) (O : Nat → Prop), Wd w0 w pt bm R next n f m B k M O → (f q).v = .slice (some ⟨g, 0, none⟩) (f q).n c → j + vs.length ≤ (f q).n * (f q).s →
    ∃ O' xs', xs'.length = (f q).xs.length ∧ (∀ o, xs'[o]? = if j ≤ o ∧ o < j + vs.length ∧ o < (f q).xs.length then vs[o - j]? else (f q).xs[o]?) ∧ Wd w0 (w.setCells g j vs) pt bm R next n (upd f q ⟨(f q).T, (f q).s, (f q).v, (f q).n, xs'⟩) m B k M O'
  | [], j, w, f, O, h, _, _ => by
    refine ⟨O, (f q).xs, rfl, fun o => by rw [if_neg (fun k => by simp at k; omega)], ?_⟩
    have : upd f q ⟨(f q).T, (f q).s, (f q).v, (f q).n, (f q).xs⟩ = f := funext fun r => by
      by_cases e : r = q
      · subst e; rw [upd_same]
      · rw [upd_other _ _ e]
    rw [this]
    exact h
  | v :: vs, j, w, f, O, h, hv, hl => by
    rw [List.length_cons] at hl
    have W := h.set hq hv (j := j) (by omega) v
    have hs : (upd f q ⟨(f q).T, (f q).s, (f q).v, (f q).n, (f q).xs.set j v⟩ q) = ⟨(f q).T, (f q).s, (f q).v, (f q).n, (f q).xs.set j v⟩ := upd_same _ _ _
    obtain ⟨O', xs', h1, h2, h3⟩ := Wd.sets hq vs (j + 1) _ _ _ W (by rw [hs]; exact hv) (by rw [hs]; show j + 1 + vs.length ≤ (f q).n * (f q).s; omega)
    rw [hs] at h1 h2 h3
    dsimp only at h1 h2 h3
    rw [List.length_set] at h1 h2
    refine ⟨O', xs', h1, fun o => ?_, ?_⟩
    · rw [h2 o]
      by_cases c1 : j + 1 ≤ o ∧ o < j + 1 + vs.length ∧ o < (f q).xs.length
      · rw [if_pos c1, if_pos ⟨by omega, by have := c1.2.1; simp only [List.length_cons]; omega, c1.2.2⟩]
        obtain ⟨d, rfl⟩ : ∃ d, o = j + 1 + d := ⟨o - (j + 1), by omega⟩
        rw [show j + 1 + d - (j + 1) = d by omega, show j + 1 + d - j = d + 1 by omega]
        rfl
      · rw [if_neg c1]
        by_cases c2 : o = j
        · subst c2
          by_cases c3 : o < (f q).xs.length
          · rw [if_pos ⟨Nat.le_refl _, by simp only [List.length_cons]; omega, c3⟩, List.getElem?_set_self c3, Nat.sub_self]
            rfl
          · rw [if_neg (fun k => c3 k.2.2), List.getElem?_eq_none (by rw [List.length_set]; omega), List.getElem?_eq_none (by omega)]
        · rw [List.getElem?_set_ne (by omega), if_neg (fun k => c1 ⟨by omega, by have := k.2.1; simp only [List.length_cons] at this; omega, k.2.2⟩)]
    · have : upd (upd f q ⟨(f q).T, (f q).s, (f q).v, (f q).n, (f q).xs.set j v⟩) q ⟨(f q).T, (f q).s, (f q).v, (f q).n, xs'⟩ = upd f q ⟨(f q).T, (f q).s, (f q).v, (f q).n, xs'⟩ := funext fun r => by
        by_cases e : r = q
        · subst e; rw [upd_same, upd_same]
        · rw [upd_other _ _ e, upd_other _ _ e, upd_other _ _ e]
      rw [this] at h3
      exact h3
/-- A box that was not laid, cleared in the document's row. -/
theorem M23.clear (h : M23 l w0 w pt bm m B bn bx g gn gb nk j n0 n1 nz np aL cL a1 c1 R f O) {gr : Nat} (hg : a1 = some ⟨gr, 0, none⟩) (hz : nz + 1 = n1) (ht : there23 l nz = false) : ∃ f' O', M23 l w0 (w.setCells gr (nz * 18) (box18 false 0 0 0 0 0 (.slice none 0 0))) pt bm m B bn bx g gn gb nk j n0 n1 (nz + 1) np aL cL a1 c1 R f' O' := by
  subst hg
  have e1 := h.f1
  obtain ⟨O', xs', h1, h2, h3⟩ := Wd.sets (q := 1) (g := gr) (c := c1) (by omega) (box18 false 0 0 0 0 0 (.slice none 0 0)) (nz * 18) w f O h.mt.wd (by rw [e1]) (by rw [e1, box18_len]; show nz * 18 + 18 ≤ n1 * 18; omega)
  rw [e1] at h1 h2 h3
  dsimp only at h1 h2 h3
  have hL : (rng (wV l g nz) n1).length = n1 * 18 := rng_len (fun k => wV_len l g nz k) n1
  have hx : xs' = rng (wV l g (nz + 1)) n1 := by
    apply List.ext_getElem?
    intro o
    have hL2 : (rng (wV l g (nz + 1)) n1).length = n1 * 18 := rng_len (fun k => wV_len l g (nz + 1) k) n1
    by_cases c : o < n1 * 18
    · obtain ⟨q, d, rfl, hd⟩ : ∃ q d, o = q * 18 + d ∧ d < 18 := ⟨o / 18, o % 18, by omega, Nat.mod_lt _ (by omega)⟩
      have hq : q < n1 := by omega
      rw [h2, rng_get (fun k => wV_len l g (nz + 1) k) hd hq]
      by_cases c2 : q = nz
      · subst c2
        rw [if_pos ⟨by omega, by rw [box18_len]; omega, by rw [hL]; omega⟩, show q * 18 + d - q * 18 = d by omega]
        unfold wV
        rw [if_pos (by omega)]
        unfold b22V
        rw [if_neg (by rw [ht]; simp)]
      · rw [if_neg (by rw [box18_len]; omega), rng_get (fun k => wV_len l g nz k) hd hq]
        unfold wV
        by_cases c3 : q < nz
        · rw [if_pos c3, if_pos (by omega)]
        · omega
    · rw [List.getElem?_eq_none (by rw [h1, hL]; omega), List.getElem?_eq_none (by rw [hL2]; omega)]
  subst hx
  refine ⟨_, O', ⟨h3, h.mt.told, h.mt.k1, h.mt.vl, ?_, fun k hk => ?_⟩, by rw [upd_same], h.m2, h.pc⟩
  · rw [upd_other _ _ (by omega), h.mt.f0]
    congr 1
    exact rng_congr fun k hk => by rw [upd_other _ _ (by omega)]
  · rw [upd_other _ _ (by omega)]
    exact h.mt.fk k hk
end
theorem Wd.del {w0 w : World} {pt bm n m k : Nat} {R : Rows} {next : Int} {f : Nat → RowT} {B : Nat → BlkT} {M : Nat → MapT} {O : Nat → Prop} (h : Wd w0 w pt bm R next n f m B k M O) {q : Nat} (hq : q < k) (x : Int) : Wd w0 (delM w (M q).b x) pt bm R next n f m B k (upd M q ⟨(M q).b, fun y => if y = x then none else (M q).g y⟩) (plusN O w (delM w (M q).b x)) := by
  have hb : ButS (fun b => b = (M q).b) w.heap.size w (delM w (M q).b x) := (ButS.refl _ _ _).del (.inr rfl)
  have hS : ∀ b, b < w.heap.size → b = (M q).b → O b := fun b _ e => by rw [e]; exact h.mo q hq
  have hMb : ∀ r, (upd M q ⟨(M q).b, fun y => if y = x then none else (M q).g y⟩ r).b = (M r).b := fun r => by
    by_cases c : r = q
    · subst c; rw [upd_same]
    · rw [upd_other _ _ c]
  refine ⟨h.tk.write hb hS, h.tp, h.tm, h.fam.buts hb rfl (fun r g hr e e2 => own_notMap (h.fam.row r hr) (h.mok q hq) (e.trans (by rw [e2]))), fun r g hr e => .inl (h.fo r g hr e), fun r hr => hb.has (h.has r hr) (h.has r hr).lt (fun e => has_notMap (h.has r hr) (e ▸ h.mok q hq)), fun r hr => .inl (h.bo r hr), h.bl, h.bne, h.bap,
    fun r hr => ?_, fun r hr y => ?_, fun r hr => by rw [hMb]; exact .inl (h.mo r hr), fun r hr => by rw [hMb]; exact h.ml r hr, fun r s hr hs hrs => by rw [hMb, hMb]; exact h.mne r s hr hs hrs, below_but h.bel hb rfl h.size (fun b e => by rw [e]; exact h.ml q hq)⟩
  · by_cases c : r = q
    · subst c; rw [upd_same]; exact mapOk_del_same (h.mok r hr)
    · rw [upd_other _ _ c]; exact mapOk_eq (delM_other (h.mne r q hr hq c)) (h.mok r hr)
  · by_cases c : r = q
    · subst c
      rw [upd_same]
      show mlook (mapOf (delM w (M r).b x) (M r).b) y = _
      rw [mapOf_del_same (h.mok r hr), mlook_del _ _ _ (mapOk_nodup (h.mok r hr)), h.mlk r hr]
    · rw [upd_other _ _ c, mapOf_eq (delM_other (h.mne r q hr hq c))]
      exact h.mlk r hr y
section
variable {l : List N23} {w0 w w' : World} {pt bm m bn bx gn gb nk j n0 n1 nz np cL c1 : Nat} {B : Nat → BlkT} {g : Nat → Nat × Nat} {aL a1 : Option Addr} {R : Rows} {f : Nat → RowT} {O : Nat → Prop}
/-- A box put into the map and, as it was not laid, taken out of it. -/
theorem M23.putDel (h : M23 l w0 w pt bm m B bn bx g gn gb nk j n0 n1 nz np aL cL a1 c1 R f O) (ht : there23 l gb = false) (v : Value) : ∃ O' M1 O'', Mt (V23 l) (pa23 l) 2 w0 (putM w bx gb v) pt bm m B 2 M1 nk j n0 aL cL R f O' ∧ (M1 1).b = bx ∧ (M1 0).b = bn ∧ M23 l w0 (delM (putM w bx gb v) bx gb) pt bm m B bn bx g gn (gb + 1) nk j n0 n1 nz np aL cL a1 c1 R f O'' := by
  obtain ⟨O', k⟩ := h.mt.put (q := 1) (by omega) (gb : Int) v (M' := fun r => if r = 0 then ⟨bn, m23n l gn⟩ else ⟨bx, fun y => if y = (gb : Int) then some v else m23b l g gb y⟩) (fun r hr => ⟨by rcases r with _ | r <;> rfl, fun y => by
    rcases r with _ | r
    · show m23n l gn y = if (0 : Nat) = 1 then _ else m23n l gn y
      rw [if_neg (by omega)]
    · obtain rfl : r = 0 := by omega
      show (if y = (gb : Int) then some v else m23b l g gb y) = if (0 + 1 : Nat) = 1 then (if y = (gb : Int) then some v else m23b l g gb y) else _
      rw [if_pos (show (0 + 1 : Nat) = 1 from rfl)]⟩)
  have W := k.wd.del (q := 1) (by omega) (gb : Int)
  refine ⟨O', _, _, k, rfl, rfl, ⟨W.maps (fun r hr => ?_), k.told, k.k1, k.vl, k.f0, k.fk⟩, h.f1, h.m2, h.pc⟩
  rcases r with _ | r
  · exact ⟨rfl, fun y => rfl⟩
  · obtain rfl : r = 0 := by omega
    refine ⟨rfl, fun y => ?_⟩
    show m23b l g (gb + 1) y = if y = (gb : Int) then none else if y = (gb : Int) then some v else m23b l g gb y
    unfold m23b
    by_cases c : y = (gb : Int)
    · subst c
      rw [if_pos rfl, if_neg (fun k => by have := k.2.2; rw [Int.toNat_natCast, ht] at this; cases this)]
    · rw [if_neg c, if_neg c]
      by_cases c2 : 0 ≤ y ∧ y < (gb : Int) ∧ there23 l y.toNat = true
      · rw [if_pos c2, if_pos ⟨c2.1, by omega, c2.2.2⟩]
      · rw [if_neg c2, if_neg (fun k => c2 ⟨k.1, by have := k.2.1; omega, k.2.2⟩)]
end
theorem there_row {w : World} {base n s g c : Nat} {e : TypeId} {xs : List Value} (h : w.ownsRow base e s (.slice (some ⟨g, 0, none⟩) n c) n xs) {o k : Nat} (hk : o + k ≤ n * s) : w.there g o k := fun j hj => by
  obtain ⟨_, _, e1, _, _, r1⟩ := row_reads h
  cases e1
  have h0 : 0 < n := by
    rcases Nat.eq_zero_or_pos n with c | c
    · subst c; simp at hk; omega
    · exact c
  obtain ⟨g', eg, _, _, c1⟩ := r1 h0
  cases eg
  obtain ⟨cs, hcs⟩ := own_has h (show _ = some g from rfl)
  have hl : o + j < xs.length := by rw [h.1]; omega
  exact ⟨by rw [c1 (o + j) _ (List.getElem?_eq_getElem hl)]; rfl, hcs.frozen _⟩
theorem storeY_mid {W : World} {g o : Nat} (h : W.there g o 18) : runStore Try.prog 44 (.pointer (some ⟨g, o, none⟩)) (.agg (box18 false 0 0 0 0 0 (.slice none 0 0)).toArray) W = .ok .skip (W.setCells g o (box18 false 0 0 0 0 0 (.slice none 0 0))) := by
  unfold runStore
  rw [Sem.run_bind, run_storeAt_mid W g o 44 (box18 false 0 0 0 0 0 (.slice none 0 0)).toArray h (by kernel_rfl) (by kernel_rfl)]
  rfl
theorem exec_buildY0 {ρ : Operand → Value} {d : Option Tmp} {t : TypeId} {po : String} {af : Array Edge} {g : Option (Nat × Bool)} (w : World) : (execOp ρ ⟨d, .build 44 #[], t, po, af, g⟩).run Try.prog w = .ok (.value (.agg (box18 false 0 0 0 0 0 (.slice none 0 0)).toArray)) w := by kernel_rfl
theorem del_box {w : World} {b : Nat} {k : Int} {ty : TypeId} (h : MapOk w b) : (Builtin.delete_ #[26, 3] ty #[.map (some b), .int .i64 k]).run Try.prog w = .ok (.tuple #[]) (delM w b k) := run_delM Try.underlying26 Try.underlying3 ty k h
end Go.Proofs.Ytjcbphhemmdnjaa
