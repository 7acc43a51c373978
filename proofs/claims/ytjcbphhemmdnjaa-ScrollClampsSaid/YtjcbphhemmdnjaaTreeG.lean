/- package tree: Add. -/
import Derived.Test.YtjcbphhemmdnjaaTreeF
namespace Go.Proofs.Ytjcbphhemmdnjaa
open Go.RowKit
set_option linter.unusedSimpArgs false
set_option linter.unusedVariables false
-- below_from_drew
attribute [local go_sem] ov_cell_same ov_cell_other ov_frozen_same ov_frozen_other ov_size ov_setCell_same ov_setCell_other cell_alloc_old frozen_alloc_old setCell_alloc_old old_alloc old_ov old_drew old_drewN old_setCell
attribute [local go_sem ↓] run_max2 run_min2
attribute [local go_sem] node_f0 node_f1 look_node look_node_ok put_node del_node len_node mapOk_alloc mapOf_alloc mapOk_drew mapOf_drew mapOk_drewN mapOf_drewN mapOk_ov mapOf_ov mapOk_put_same mapOf_put_same cell_putM frozen_putM old_putM

def nextT (next f : Int) : Int := if f = 0 then next + 1 else next
/-- What Add leaves. -/
def AddPost (p bm : Nat) (base : Nat → Prop) (R : Rows) (next par at_ : Int) (w : World) (e : Ending) (w' : World) : Prop :=
  e = .returned (.tuple #[.int .i64 (addT R next par at_).2.1, .int .i64 (addT R next par at_).2.2]) ∧ TreeAt w' p bm base (addT R next par at_).1 (nextT next (addT R next par at_).2.2) ∧ ButS (fun b => b = p ∨ b = bm) w.heap.size w w'
theorem TreeAt.butsB {w w' : World} {p bm : Nat} {base : Nat → Prop} {R : Rows} {next : Int} (h : TreeAt w p bm base R next) (hb : Below w.heap.size w w') : TreeAt w' p bm base R next ∧ ButS (fun b => b = p ∨ b = bm) w.heap.size w w' := ⟨h.below hb, .of hb⟩
set_option maxRecDepth 100000 in
theorem add_nil (par at_ : Int) (w : World) : Calls Try.prog 33 #[.pointer none, .int .i64 par, .int .i64 at_] w fun e w' => e = .returned (.tuple #[.int .i64 0, .int .i64 1]) ∧ w = w' := by
  go_enter Try.func33, Try.ntmps33
  go_wp2_with fail
  go_ret2
  exact ⟨rfl, rfl⟩
theorem kids_len_le (d : Int) (C : Rows) : (kidsR d C).length ≤ C.length := by
  have h1 := lvl_len (d + 1) (subR d C)
  have h2 : (subR d C).length ≤ C.length := by
    obtain ⟨B', e, _⟩ := subR_split d C
    have := congrArg List.length e
    simp only [List.length_append] at this; omega
  show (lvl (d + 1) (subR d C)).length ≤ _
  omega
set_option maxRecDepth 100000 in
set_option maxHeartbeats 4000000 in
theorem tadd_any (p bm : Nat) (base : Nat → Prop) (R : Rows) (next par at_ : Int) (w : World) (h : TreeAt w p bm base R next) (hm : R.length ≤ 100000) (hx0 : 1 ≤ next) (hx1 : next ≤ 1000000) :
    Calls Try.prog 33 #[.pointer (some ⟨p, 0, none⟩), .int .i64 par, .int .i64 at_] w (AddPost p bm base R next par at_ w) := by
  have HHAS := Lib.hid (thas_any p bm base R next par w h)
  cases hf : findR par R with
  | none =>
    have hno := findR_none.1 hf
    have hF : addT R next par at_ = (R, 0, 9) := by unfold addT; rw [hf]
    unfold AddPost; rw [hF]
    have h2 : decide (par ∈ nums R) = false := by simp [hno]
    have HT := Lib.hid h
    clear h hf hno hF
    go_enter Try.func33, Try.ntmps33
    go_wp2_with fail
    refine HHAS.out.mono ?_
    rintro e w1 ⟨rfl, hb⟩
    have HB := Lib.hid hb; clear hb
    go_wp2_with fail
    go_ret2
    exact ⟨rfl, HT.out.butsB HB.out⟩
  | some y =>
    obtain ⟨A, d, C⟩ := y
    obtain ⟨hR, _⟩ := findR_some hf
    have h2 : decide (par ∈ nums R) = true := by simp [hR, nums]
    have hkl : (kidsR d C).length ≤ 100000 := by
      have := kids_len_le d C
      have h3 : R.length = A.length + (C.length + 1) := by rw [hR]; simp
      omega
    have HT := Lib.hid h; have HR := Lib.hid hR
    by_cases c1 : at_ < 0 ∨ ((kidsR d C).length : Int) < at_
    · have hF : addT R next par at_ = (R, 0, 2) := by unfold addT; rw [hf]; exact if_pos c1
      unfold AddPost; rw [hF]
      clear h hf hF hR
      go_enter Try.func33, Try.ntmps33
      go_wp2_with fail
      refine HHAS.out.mono ?_
      rintro e w1 ⟨rfl, hb⟩
      have hT := HT.out.below hb
      obtain ⟨a, c, hv, _⟩ := hT.node HR.out
      have g0 := has_cell hT.str (o := 0) rfl
      have hl := hT.str.lt
      have hk := hT.ok
      have HB := Lib.hid hb; clear hb hT
      rcases c1 with c1 | c1
      · go_wp2_with fail
        go_ret2
        exact ⟨rfl, HT.out.butsB HB.out⟩
      · by_cases c3 : at_ < 0
        · go_wp2_with fail
          go_ret2
          exact ⟨rfl, HT.out.butsB HB.out⟩
        · have c4 : decide (at_ < 0) = false := by simp; omega
          have c5 : 0 ≤ at_ := by omega
          clear c3
          go_wp2_with fail
          go_ret2
          exact ⟨rfl, HT.out.butsB HB.out⟩
    · have c2 : 0 ≤ at_ := by omega
      have c3 : at_ ≤ ((kidsR d C).length : Int) := by omega
      have c4 : decide (at_ < 0) = false := by simp; omega
      have c5 : decide (((kidsR d C).length : Int) < at_) = false := by simp; omega
      by_cases c6 : 1024 ≤ R.length
      · have hF : addT R next par at_ = (R, 0, 8) := by unfold addT; rw [hf]; show (if _ then _ else _) = _; rw [if_neg c1, if_pos c6]
        unfold AddPost; rw [hF]
        have c7 : (1024 : Int) ≤ ((R.length : Nat) : Int) := by omega
        clear h hf hF hR c1
        go_enter Try.func33, Try.ntmps33
        go_wp2_with fail
        refine HHAS.out.mono ?_
        rintro e w1 ⟨rfl, hb⟩
        have hT := HT.out.below hb
        obtain ⟨a, c, hv, _⟩ := hT.node HR.out
        have g0 := has_cell hT.str (o := 0) rfl
        have hl := hT.str.lt
        have hk := hT.ok
        have HB := Lib.hid hb; have HT1 := Lib.hid hT; clear hb hT
        go_wp2_with fail
        refine (len_any p bm base R next w1 HT1.out).mono ?_
        rintro e w2 ⟨rfl, rfl⟩
        go_wp2_with fail
        go_ret2
        exact ⟨rfl, HT.out.butsB HB.out⟩
      · have c7 : decide ((1024 : Int) ≤ ((R.length : Nat) : Int)) = false := by simp; omega
        have c7' : ((R.length : Nat) : Int) < 1024 := by omega
        by_cases c8 : 64 ≤ d
        · have hF : addT R next par at_ = (R, 0, 7) := by unfold addT; rw [hf]; show (if _ then _ else _) = _; rw [if_neg c1, if_neg c6, if_pos c8]
          unfold AddPost; rw [hF]
          clear h hf hF hR c1 c6
          go_enter Try.func33, Try.ntmps33
          go_wp2_with fail
          refine HHAS.out.mono ?_
          rintro e w1 ⟨rfl, hb⟩
          have hT := HT.out.below hb
          obtain ⟨a, c, hv, _⟩ := hT.node HR.out
          have g0 := has_cell hT.str (o := 0) rfl
          have hl := hT.str.lt
          have hk := hT.ok
          have HB := Lib.hid hb; have HT1 := Lib.hid hT; clear hb hT
          go_wp2_with fail
          refine (len_any p bm base R next w1 HT1.out).mono ?_
          rintro e w2 ⟨rfl, rfl⟩
          go_wp2_with fail
          refine (depth_any p bm base R next (d.toNat + 1) A C par d w1 (Nat.lt_succ_self _) HT1.out HR.out).mono ?_
          rintro e w2 ⟨rfl, hb⟩
          have HB2 := Lib.hid (below_via HB.out hb HB.out.size); clear hb
          go_wp2_with fail
          go_ret2
          exact ⟨rfl, HT.out.butsB HB2.out⟩
        · obtain ⟨A2, B, hC, hcut, hA2, hB, hlen⟩ := cutR_spec d at_.toNat C (by omega)
          have hF : addT R next par at_ = ((A ++ (par, d) :: A2) ++ [(next, d + 1)] ++ B, next, 0) := by
            unfold addT; rw [hf]; show (if _ then _ else _) = _
            rw [if_neg c1, if_neg c6, if_neg c8, ← hcut, hC]
            simp
          unfold AddPost; rw [hF]
          have hInsR : R = (A ++ (par, d) :: A2) ++ B := by rw [hR, hC]; simp
          have hIns : InsOk (A ++ (par, d) :: A2) [(next, d + 1)] B A A2 [] par d next := ⟨rfl, rfl, hA2, fun x hx => by simp at hx, hB⟩
          have hnx : next ∉ nums R := fun q => by
            obtain ⟨x, hx, e⟩ := List.mem_map.1 q
            have := h.wf.num x hx; omega
          have hnd : (nums ((A ++ (par, d) :: A2) ++ [(next, d + 1)] ++ B)).Nodup := by
            have q := h.wf.nodup
            rw [hInsR, nums_append] at q
            rw [hInsR, nums_append, List.mem_append, not_or] at hnx
            rw [nums_append, nums_append]
            have q1 := List.nodup_append.1 q
            refine List.nodup_append.2 ⟨List.nodup_append.2 ⟨q1.1, by simp [nums], fun x hx y hy => by simp [nums] at hy; subst hy; exact fun e => hnx.1 (e ▸ hx)⟩, q1.2.1, fun x hx y hy => ?_⟩
            rcases List.mem_append.1 hx with hx | hx
            · exact q1.2.2 x hx y hy
            · simp [nums] at hx; subst hx; exact fun e => hnx.2 (e ▸ hy)
          have hwf : WfR ((A ++ (par, d) :: A2) ++ [(next, d + 1)] ++ B) (next + 1) := WfR.ins hIns (by rw [← hInsR]; exact h.wf) trivial hnd (fun x hx => by simp at hx; subst hx; show d + 1 ≤ 64; omega) (fun x hx => by simp at hx; subst hx; exact ⟨by show 0 ≤ next; omega, by show next < next + 1; omega⟩) (by omega)
          have HIR := Lib.hid hInsR; have HIN := Lib.hid hIns; have HNX := Lib.hid hnx; have HND := Lib.hid hnd; have HWF := Lib.hid hwf; have HLN := Lib.hid hlen
          have c9 : decide ((64 : Int) ≤ d) = false := by simp; omega
          have c10 : d < 64 := by omega
          have hat : at_ = ((at_.toNat : Nat) : Int) := by omega
          have HAT := Lib.hid hat
          have hne := h.ne
          clear h hf hF hR c1 c6 c8 hInsR hIns hnx hnd hwf hlen hC hcut hA2 hB hat
          go_enter Try.func33, Try.ntmps33
          go_wp2_with fail
          refine HHAS.out.mono ?_
          rintro e w1 ⟨rfl, hb⟩
          have hT := HT.out.below hb
          obtain ⟨a, c, hv, _⟩ := hT.node HR.out
          have g0 := has_cell hT.str (o := 0) rfl
          have hl := hT.str.lt
          have hk := hT.ok
          have HB := Lib.hid hb; have HT1 := Lib.hid hT; clear hb hT
          go_wp2_with fail
          refine (len_any p bm base R next w1 HT1.out).mono ?_
          rintro e w2 ⟨rfl, rfl⟩
          go_wp2_with fail
          refine (depth_any p bm base R next (d.toNat + 1) A C par d w1 (Nat.lt_succ_self _) HT1.out HR.out).mono ?_
          rintro e w2 ⟨rfl, hb⟩
          have HB2 := Lib.hid (below_via HB.out hb HB.out.size)
          have hT2 := HT1.out.below hb
          have HT2 := Lib.hid hT2
          have hl2 := hT2.str.lt
          have hov := ov_self hT2.str
          clear hb hT2 g0 hl hk hv
          rw [← hov]
          clear hov
          go_wp2_with fail
          have hVm : mapOf (ov w2 p #[.map (some bm), .int .i64 (next + 1)] 143) bm = mapOf w2 bm := mapOf_ov hne
          have hV : MidAt (ov w2 p #[.map (some bm), .int .i64 (next + 1)] 143) p bm base ((A ++ (par, d) :: A2) ++ B) [] (next + 1) := by
            refine ⟨has_ov_same hl2, mapOk_ov hne HT2.out.ok, hne, by rw [ov_size]; exact HT2.out.hp, by rw [ov_size]; exact HT2.out.hp, ?_⟩
            rw [hVm, ← HIR.out]
            exact HT2.out.fo.to (by simp) (fun b hb hF _ => Array.getElem?_setIfInBounds_ne (Ne.symm hF.2))
          have hmiss : mlook (mapOf w2 bm) next = none := HT2.out.fo.miss next HNX.out (by simp [nums])
          have hput := put_any p bm base (A ++ (par, d) :: A2) [(next, d + 1)] B A A2 [] [] par d next (next + 1) 0 none 0 _ hV HIN.out HND.out (fun X m d' Y hX e => by
              cases X with
              | nil => exact absurd rfl hX
              | cons x X => simp at e) (fun k h1 _ => by rw [hVm]; exact HT2.out.fo.miss k (by rw [HIR.out]; exact h1) (by simp [nums])) (by
              rw [hVm, HT2.out.fo.len, mhas_none hmiss, HIR.out]; simp; omega) (by rw [hVm, mgetD_none hmiss]; rfl) (Nat.le_refl _) (intsAt_nil _ _) (fun h0 => by simp [kidsR, subR, lvl] at h0) (by rw [← HIR.out]; exact hm)
          rw [HLN.out, ← HAT.out] at hput
          refine hput.mono ?_
          rintro e w3 ⟨rfl, hM, hbs⟩
          have hbV : ButS (fun b => b = p ∨ b = bm) w.heap.size w (ov w2 p #[.map (some bm), .int .i64 (next + 1)] 143) := (ButS.of HB2.out).ovs (.inr (.inl rfl)) _ _
          have hsz := HB2.out.size
          have HBW := Lib.hid (hbV.trans (hbs.less (by rw [ov_size]; exact hsz)))
          have HM := Lib.hid (hM.tree HWF.out)
          clear hput hM hbs hbV hV hVm hmiss
          go_wp2_with fail
          go_ret2
          exact ⟨rfl, HM.out, HBW.out⟩
end Go.Proofs.Ytjcbphhemmdnjaa
