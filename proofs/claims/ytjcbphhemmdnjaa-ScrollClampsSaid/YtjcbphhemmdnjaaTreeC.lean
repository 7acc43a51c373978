/- package tree: below, Order. -/
import Derived.Test.YtjcbphhemmdnjaaTreeB
namespace Go.Proofs.Ytjcbphhemmdnjaa
open Go.RowKit
set_option linter.unusedSimpArgs false
set_option linter.unusedVariables false
-- below_from_drew
attribute [local go_sem] ov_cell_same ov_cell_other ov_frozen_same ov_frozen_other ov_size ov_setCell_same ov_setCell_other cell_alloc_old frozen_alloc_old setCell_alloc_old old_alloc old_ov old_drew old_drewN old_setCell
attribute [local go_sem ↓] run_max2 run_min2
attribute [local go_sem] node_f0 node_f1 look_node look_node_ok put_node del_node len_node mapOk_alloc mapOf_alloc mapOk_drew mapOf_drew mapOk_drewN mapOf_drewN mapOk_ov mapOf_ov

/-- The nodes of a part of a tree. -/
structure SegAt (w : World) (p bm : Nat) (S : Rows) : Prop where
  c0 : w.cell? ⟨p, 0, none⟩ = some (.map (some bm))
  hl : p < w.heap.size
  ok : MapOk w bm
  det : ∀ A n d C, S = A ++ (n, d) :: C → ∃ a par c, mgetD (mapOf w bm) n nodeZ = .agg #[.int .i64 par, .slice a (kidsR d C).length c] ∧ IntsAt w a (kidsR d C)
theorem SegAt.below {w w' : World} {p bm : Nat} {S : Rows} (h : SegAt w p bm S) (hb : Below w.heap.size w w') : SegAt w' p bm S := by
  refine ⟨(hb.cell (p := ⟨p, 0, none⟩) h.hl).trans h.c0, Nat.lt_of_lt_of_le h.hl hb.size, mapOk_eq (hb.block bm h.ok.lt) h.ok, fun A n d C e => ?_⟩
  obtain ⟨a, par, c, h1, h2⟩ := h.det A n d C e
  exact ⟨a, par, c, by rw [mapOf_eq (hb.block bm h.ok.lt), h1], h2.below hb⟩
theorem SegAt.part {w : World} {p bm : Nat} {S X T B : Rows} {e : Int} (h : SegAt w p bm S) (hS : S = X ++ T ++ B) (hT : ∀ x ∈ T, e ≤ x.2) (hB : HeadLe e B) : SegAt w p bm T := by
  refine ⟨h.c0, h.hl, h.ok, fun A n d C q => ?_⟩
  obtain ⟨a, par, c, h1, h2⟩ := h.det (X ++ A) n d (C ++ B) (by rw [hS, q]; simp)
  rw [kidsR_end (hB.mono (hT (n, d) (by rw [q]; simp)))] at h1 h2
  exact ⟨a, par, c, h1, h2⟩
theorem TreeAt.seg {w : World} {p bm : Nat} {base : Nat → Prop} {R : Rows} {next : Int} (h : TreeAt w p bm base R next) : SegAt w p bm R := by
  refine ⟨has_cell h.str rfl, h.str.lt, h.ok, fun A n d C e => ?_⟩
  obtain ⟨a, c, h1, _, h2⟩ := h.node e
  exact ⟨a, _, c, h1, h2⟩
theorem lvl_all {d : Int} : ∀ {S : Rows}, (∀ x ∈ S, d < x.2) → kidsR d S = lvl (d + 1) S := fun {S} h => by
  have := kidsR_append (B := []) h
  rw [List.append_nil] at this
  rw [this]; simp [kidsR, subR, lvl]
theorem lvl_pos {e : Int} {E : Rows} {x : Int × Int} (hE : E = x :: E.tail) (h : x.2 = e) : lvl e E = x.1 :: lvl e E.tail := by
  rw [hE]; show (if x.2 = e then x.1 :: lvl e E.tail else _) = _; rw [if_pos h]; rfl
theorem row_new1 (w : World) (x : Value) (e : TypeId) : (w.alloc (.cells #[x] e)).ownsRow w.heap.size e 1 (.slice (some ⟨w.heap.size, 0, none⟩) 1 1) 1 [x] :=
  ⟨by simp, .inr ⟨w.heap.size, 1, #[x], rfl, Nat.le_refl _, by show (w.heap.push _)[w.heap.size]? = _; simp, Nat.le_refl _, by unfold maxLen; omega, by simp, by simp⟩⟩
theorem nums_length (R : Rows) : (nums R).length = R.length := by simp [nums]
theorem lvl_len (e : Int) : ∀ D : Rows, (lvl e D).length ≤ D.length
  | [] => Nat.le_refl _
  | x :: D => by
    show (if x.2 = e then x.1 :: lvl e D else lvl e D).length ≤ D.length + 1
    have := lvl_len e D
    split <;> simp <;> omega
/-- Where the loop over the kids stands. -/
def BelowI (w : World) (S' : Rows) (n d : Int) (ov iv : Value) (wr : World) : Prop :=
  ∃ (D E : Rows) (al : Option Addr) (ca : Nat), S' = D ++ E ∧ HeadLe (d + 1) E ∧ iv = .int .i64 (((lvl (d + 1) D).length : Nat) : Int) ∧ ov = .slice al (1 + D.length) ca ∧ Below w.heap.size w wr ∧ wr.ownsRow w.heap.size 3 1 (.slice al (1 + D.length) ca) (1 + D.length) (intVals (n :: nums D))
set_option maxRecDepth 100000 in
set_option maxHeartbeats 4000000 in
theorem below_any (p bm : Nat) : ∀ (N : Nat) (n d : Int) (S' : Rows) (w : World), S'.length < N → S'.length ≤ 100000 → SegAt w p bm ((n, d) :: S') → (∀ x ∈ S', d < x.2) → Steps ((n, d) :: S') →
    Calls Try.prog 45 #[.pointer (some ⟨p, 0, none⟩), .int .i64 n] w fun e w' => ∃ a c, e = .returned (.slice a (1 + S'.length) c) ∧ w'.ownsRow w.heap.size 3 1 (.slice a (1 + S'.length) c) (1 + S'.length) (intVals (n :: nums S')) ∧ Below w.heap.size w w'
  | 0, n, d, S', w, hN, hmx, h, hS, hst => by omega
  | N + 1, n, d, S', w, hN, hmx, h, hS, hst => by
    obtain ⟨i0, hi, hz0, hz1, hz2⟩ := info_parts infoT
    obtain ⟨ka, par, kc, hv, hI⟩ := h.det [] n d S' rfl
    rw [lvl_all hS] at hv hI
    have c0 := h.c0; have hl := h.hl; have hok := h.ok; have hbl : Old w bm := h.ok.lt
    have HI := Lib.hid hI; have HS := Lib.hid hS; have HST := Lib.hid hst; have HSEG := Lib.hid h
    have IH := Lib.hid (below_any p bm N)
    clear hI hS hst h
    go_enter Try.func45, Try.ntmps45
    go_wp2_with fail
    go_loopw [5, 18] (fun sv iv wr => BelowI w S' n d sv iv wr) (fun _ iv _ => S'.length + 1 - (intOf iv).toNat)
    case atStart => unfold BelowI; exact ⟨[], S', _, _, rfl, fun x C e => by
      have q := HST.out
      rw [e] at q
      exact q.1, rfl, rfl, by (repeat' (first | (with_reducible exact Below.refl _ _) | (with_reducible assumption) | (with_reducible refine below_from_drew ?_) | (with_reducible refine Below.alloc ?_ ?_ _) | (with_reducible refine Below.drew ?_) | (with_reducible refine below_drewN ?_ _) | (with_reducible refine Below.setCell ?_ ?_ _) | (with_reducible refine below_via ?_ (by assumption) ?_) | (with_reducible refine below_ov ?_ ?_ _ _) | go_size)), row_new1 _ _ _⟩
    case round =>
      unfold BelowI at hrel
      obtain ⟨D, E, al, ca, hDE, hE, rfl, rfl, hbw, hown⟩ := hrel
      have HBW := Lib.hid hbw; have HOWN := Lib.hid hown; have HDE := Lib.hid hDE
      have hlen : S'.length = D.length + E.length := by rw [hDE, List.length_append]
      have hlv : lvl (d + 1) S' = lvl (d + 1) D ++ lvl (d + 1) E := by rw [hDE, lvl_append]
      have hSEG := HSEG.out.below hbw
      have hlvD : (lvl (d + 1) D).length ≤ D.length := lvl_len _ _
      cases hEE : E with
      | nil =>
        subst hEE
        have d1 : decide (((lvl (d + 1) D).length : Int) < ((lvl (d + 1) S').length : Int)) = false := by rw [hlv]; simp [lvl]
        have hDS : S' = D := by rw [HDE.out, List.append_nil]
        clear hbw hown hSEG hlv hE hDE
        go_wp2_with fail
        go_ret
        refine ⟨al, ca, by rw [hDS]; rfl, by rw [hDS]; exact HOWN.out, HBW.out⟩
      | cons x Y =>
        subst hEE
        obtain ⟨m, e⟩ := x
        have he : e = d + 1 := by
          have q1 := hE (m, e) Y rfl
          have q2 := HS.out (m, e) (by rw [hDE]; simp)
          show (m, e).2 = _; omega
        subst he
        have hlE : lvl (d + 1) ((m, d + 1) :: Y) = m :: lvl (d + 1) Y := by show (if d + 1 = d + 1 then _ else _) = _; rw [if_pos rfl]
        obtain ⟨B', hB', hBh⟩ := subR_split (d + 1) Y
        have hTall : ∀ z ∈ subR (d + 1) Y, d + 1 < z.2 := subR_all
        have hpart : SegAt wr p bm ((m, d + 1) :: subR (d + 1) Y) := hSEG.part (X := (n, d) :: D) (B := B') (e := d + 1) (by rw [hDE]; simp [← hB']) (fun z hz => by
          cases hz with
          | head => exact Int.le_refl _
          | tail _ hz => exact Int.le_of_lt (hTall z hz)) hBh
        have hst2 : Steps ((m, d + 1) :: subR (d + 1) Y) := by
          have q := HST.out
          rw [hDE, show (n, d) :: (D ++ (m, d + 1) :: Y) = ((n, d) :: D) ++ (((m, d + 1) :: subR (d + 1) Y) ++ B') by simp [← hB']] at q
          exact q.right.left
        have hYl : Y.length = (subR (d + 1) Y).length + B'.length := by conv => lhs; rw [hB', List.length_append]
        simp only [List.length_cons] at hlen
        have HC := Lib.hid (fun u (hb : Below wr.heap.size wr u) => IH.out m (d + 1) (subR (d + 1) Y) u (by omega) (by omega) (hpart.below hb) hTall hst2)
        have hix : (lvl (d + 1) D).length < (lvl (d + 1) S').length := by rw [hlv, hlE]; simp
        have d1 : ((lvl (d + 1) D).length : Int) < ((lvl (d + 1) S').length : Int) := by omega
        obtain ⟨kb, koff, rfl, hkb, hkc⟩ := HI.out (by omega)
        have g1 := (hbw.cell (p := ⟨kb, koff + (lvl (d + 1) D).length, none⟩) hkb).trans (hkc _ hix)
        have g2 : (lvl (d + 1) S').getD (lvl (d + 1) D).length 0 = m := by rw [hlv, hlE]; simp [List.getD_eq_getElem?_getD]
        rw [g2] at g1
        have hkw : kb < wr.heap.size := Nat.lt_of_lt_of_le hkb hbw.size
        have hsz := hbw.size
        have HFIN : Hid (S' = (D ++ (m, d + 1) :: subR (d + 1) Y) ++ B' ∧ HeadLe (d + 1) B' ∧ (lvl (d + 1) (D ++ (m, d + 1) :: subR (d + 1) Y)).length = (lvl (d + 1) D).length + 1 ∧ nums (D ++ (m, d + 1) :: subR (d + 1) Y) = nums D ++ (m :: nums (subR (d + 1) Y)) ∧ (D ++ (m, d + 1) :: subR (d + 1) Y).length = D.length + (1 + (subR (d + 1) Y).length)) := by
          refine ⟨by rw [hDE]; simp [← hB'], hBh, ?_, by simp [nums], by simp; omega⟩
          have e0 : lvl (d + 1) (subR (d + 1) Y) = [] := lvl_none (fun z hz => by have := hTall z hz; omega)
          have e1 : lvl (d + 1) ((m, d + 1) :: subR (d + 1) Y) = [m] := by show (if d + 1 = d + 1 then m :: lvl (d + 1) (subR (d + 1) Y) else _) = _; rw [if_pos rfl, e0]
          rw [lvl_append, e1, List.length_append]; rfl
        generalize (lvl (d + 1) D).length = i at *
        have hTl : (subR (d + 1) Y).length ≤ Y.length := by omega
        have hTl2 := hlen
        generalize hT : subR (d + 1) Y = T at *
        generalize hKN : (lvl (d + 1) S').length = kn at *
        clear hKN hbw hown hSEG hlv hE hDE hlE hB' hBh hTall hpart hst2 hYl hT hkc g2
        go_wp2_with (first | (go_at_call 45; (with_reducible refine (HC.out _ (Below.refl _ _)).mono ?_); rintro e' w2 ⟨a2, c2, rfl, hown2, hb2⟩; obtain ⟨a3, c3, ee, hc3, _, hrd⟩ := row_reads hown2; cases ee; obtain ⟨g, rfl, hg1, hg2, hgc⟩ := hrd (by omega); have HB2 := Lib.hid hb2; have HO2 := Lib.hid hown2; have HGC := Lib.hid hgc; have HOW2 := Lib.hid (row_below hb2 HOWN.out); have hs2 := hb2.size; clear hown2 hb2 hgc hrd) | (at_builtin; refine wpList_append_own _ rfl _ _ 54 rfl w.heap.size 3 i0 (.int .i64 0) 1 8 Try.underlying54 hi hz0 hz1 hz2 rfl (by decide) _ _ _ rfl HOW2.out ⟨g, 0, none⟩ (1 + T.length) _ (intVals (m :: nums T)) rfl ?p0 ?p1 ?p2 ?p3 ?p4 ?p5 ?_))
        case p0 => simp [intVals, nums]; omega
        case p1 => intro j u hj; rw [add_off]; exact HGC.out j u hj
        case p2 => intro u hu; obtain ⟨y, _, rfl⟩ := List.mem_map.1 hu; rfl
        case p3 => unfold maxLen; omega
        case p4 => omega
        case p5 => omega
        intro v' w3 hown3 hgrow hnil
        clear hnil
        have hB3 : Below w.heap.size w w3 := Below.grown (below_via HBW.out HB2.out HBW.out.size) hgrow (by omega) (fun bb h => row_block HOW2.out bb h)
        obtain ⟨q1, q2, q3, q4, q5⟩ := HFIN.out
        have hown4 : w3.ownsRow w.heap.size 3 1 v' (1 + (D ++ (m, d + 1) :: T).length) (intVals (n :: nums (D ++ (m, d + 1) :: T))) := by
          rw [q4, q5]
          have e : intVals (n :: (nums D ++ m :: nums T)) = intVals (n :: nums D) ++ intVals (m :: nums T) := by simp [intVals]
          rw [e, show 1 + (D.length + (1 + T.length)) = 1 + D.length + (1 + T.length) by omega]
          exact hown3
        obtain ⟨al', ca', rfl, _, _⟩ := row_reads hown4
        have HO4 := Lib.hid hown4; have HB3 := Lib.hid hB3
        clear hown3 hown4 hB3 hgrow q1 q2 q3 q4 q5
        go_wp2_with fail
        go_roundw
        case rel =>
          obtain ⟨q1, q2, q3, q4, q5⟩ := HFIN.out
          unfold BelowI
          exact ⟨D ++ (m, d + 1) :: T, B', al', ca', q1, q2, by rw [q3]; go_num, rfl, HB3.out, HO4.out⟩
        case measure => simp [intOf]; omega
set_option maxRecDepth 100000 in
theorem order_none (w : World) : Calls Try.prog 23 #[.pointer none] w fun e w' => e = .returned (.slice none 0 0) ∧ w = w' := by
  go_enter Try.func23, Try.ntmps23
  go_wp2_with fail
  go_ret
  exact ⟨rfl, rfl⟩
set_option maxRecDepth 100000 in
theorem torder_any (p bm : Nat) (base : Nat → Prop) (R : Rows) (next : Int) (w : World) (h : TreeAt w p bm base R next) (hm : R.length ≤ 100000) :
    Calls Try.prog 23 #[.pointer (some ⟨p, 0, none⟩)] w fun e w' => ∃ a c, e = .returned (.slice a R.length c) ∧ IntsAt w' a (nums R) ∧ Below w.heap.size w w' := by
  obtain ⟨R', hR, hall⟩ := h.wf.head
  have hs := h.seg
  rw [hR] at hs
  have hst := h.wf.steps
  rw [hR] at hst
  have hl : R.length = 1 + R'.length := by rw [hR]; simp; omega
  have HC := Lib.hid (below_any p bm (R'.length + 1) 0 0 R' w (by omega) (by omega) hs (fun x hx => by have := hall x hx; omega) hst)
  have hn : nums R = 0 :: nums R' := by rw [hR]; rfl
  rw [hl, hn]
  have hnl := nums_length R'
  clear h hs hst hR hall hm hl hn
  go_enter Try.func23, Try.ntmps23
  go_wp2_with (go_at_call 45; (with_reducible refine HC.out.mono ?_); rintro e' w2 ⟨a2, c2, rfl, hown2, hb2⟩; have HO := Lib.hid hown2; have HB := Lib.hid hb2; clear hown2 hb2)
  go_ret
  exact ⟨_, _, rfl, intsAt_owned HO.out (by simp [hnl]; omega), HB.out⟩
end Go.Proofs.Ytjcbphhemmdnjaa
