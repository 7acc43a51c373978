/- package tree: Drop. -/
import Derived.Test.YtcpehmlkhmfmhaaTreeG
namespace Go.Proofs.Ytcpehmlkhmfmhaa
open Go.RowKit
set_option linter.unusedSimpArgs false
set_option linter.unusedVariables false
-- below_from_drew
attribute [local go_sem] ov_cell_same ov_cell_other ov_frozen_same ov_frozen_other ov_size ov_setCell_same ov_setCell_other cell_alloc_old frozen_alloc_old setCell_alloc_old old_alloc old_ov old_drew old_drewN old_setCell
attribute [local go_sem ↓] run_max2 run_min2
attribute [local go_sem] node_f0 node_f1 look_node look_node_ok put_node del_node len_node mapOk_alloc mapOf_alloc mapOk_drew mapOf_drew mapOk_drewN mapOf_drewN mapOk_ov mapOf_ov mapOk_put_same mapOf_put_same cell_putM frozen_putM old_putM

/-- A row that is not the root's, with all below it, between the rest. -/
theorem cut_sub {R A C : Rows} {next n d : Int} (hw : WfR R next) (e : R = A ++ (n, d) :: C) (hn : n ≠ 0) :
    ∃ A1 m A2 B, R = A ++ ((n, d) :: subR d C) ++ B ∧ InsOk A ((n, d) :: subR d C) B A1 A2 (subR d C) m (d - 1) n ∧ B = C.drop (subR d C).length ∧ Steps ((n, d) :: subR d C) := by
  have hA : A ≠ [] := fun q => hn ((hw.root e).2 q)
  obtain ⟨h1, A1, m, A2, e1, h2, _⟩ := hw.parent e hA
  obtain ⟨B, hB, hh⟩ := subR_split d C
  have hBd : B = C.drop (subR d C).length := by
    have := congrArg (List.drop (subR d C).length) hB
    rw [List.drop_left] at this; exact this.symm
  have hR : R = A ++ ((n, d) :: subR d C) ++ B := by rw [e]; simp [← hB]
  refine ⟨A1, m, A2, B, hR, ⟨e1, by rw [Int.sub_add_cancel], fun x hx => by have := h2 x hx; omega, fun x hx => by have := subR_all x hx; omega, by rw [Int.sub_add_cancel]; exact hh⟩, hBd, ?_⟩
  have hs := hw.steps
  rw [hR] at hs
  exact hs.left.right
theorem MidAt.seg {w : World} {p bm base : Nat} {R S : Rows} {next : Int} (h : MidAt w p bm base R S next) : SegAt w p bm S := by
  refine ⟨has_cell h.str rfl, h.str.lt, h.ok, fun A n d C e => ?_⟩
  obtain ⟨v, par, hv, ⟨a, c, h1, _, h2, _⟩, _⟩ := h.fo.det A n d C e
  exact ⟨a, par, c, by rw [mgetD_some hv, h1], h2⟩
theorem MidAt.buts {w w' : World} {p bm base : Nat} {R S : Rows} {next : Int} (h : MidAt w p bm base R S next) (hb : Below w.heap.size w w') : MidAt w' p bm base R S next := by
  have e := hb.block bm h.ok.lt
  refine ⟨has_below hb h.str, mapOk_eq e h.ok, h.ne, Nat.le_trans h.hp hb.size, Nat.le_trans h.hp hb.size, ?_⟩
  rw [mapOf_eq e]; exact h.fo.below hb
/-- What Drop leaves. -/
def DropPost (p bm base : Nat) (R : Rows) (next n : Int) (w : World) (e : Ending) (w' : World) : Prop :=
  e = .returned (.int .i64 (dropT R n).2) ∧ TreeAt w' p bm base (dropT R n).1 next ∧ ButS (fun b => b = p ∨ b = bm) w.heap.size w w'
/-- Where the loop that strikes out stands. -/
def StrikeI (p bm : Nat) (next : Int) (ks : List Int) (w2 : World) (iv : Value) (wr : World) : Prop :=
  ∃ i : Nat, iv = .int .i64 (i : Int) ∧ i ≤ ks.length ∧ ButS (fun b => b = p ∨ b = bm) w2.heap.size w2 wr ∧ Has wr p #[.map (some bm), .int .i64 next] 131 ∧ MapOk wr bm ∧ (∀ k, mlook (mapOf wr bm) k = if k ∈ ks.take i then none else mlook (mapOf w2 bm) k) ∧ (mapOf wr bm).length + i = (mapOf w2 bm).length
set_option maxRecDepth 100000 in
theorem drop_nil (n : Int) (w : World) : Calls Try.prog 16 #[.pointer none, .int .i64 n] w fun e w' => e = .returned (.int .i64 1) ∧ w = w' := by
  go_enter Try.func16, Try.ntmps16
  go_wp2_with fail
  go_ret
  exact ⟨rfl, rfl⟩
theorem cell_delM {w : World} {b n o : Nat} {k : Int} (hn : ¬ n = b) : (delM w b k).cell? ⟨n, o, none⟩ = w.cell? ⟨n, o, none⟩ := World.cell?_of_block (w := w) (delM_other hn)
set_option maxRecDepth 100000 in
set_option maxHeartbeats 4000000 in
theorem drop_any (p bm base : Nat) (R : Rows) (next n : Int) (w : World) (h : TreeAt w p bm base R next) (hm : R.length ≤ 100000) :
    Calls Try.prog 16 #[.pointer (some ⟨p, 0, none⟩), .int .i64 n] w (DropPost p bm base R next n w) := by
  have HHAS := Lib.hid (thas_any p bm base R next n w h)
  have HT := Lib.hid h
  by_cases hn0 : n = 0
  · have hF : dropT R n = (R, 1) := by unfold dropT; rw [if_pos hn0]
    unfold DropPost; rw [hF]
    subst hn0
    clear h hF
    go_enter Try.func16, Try.ntmps16
    go_wp2_with fail
    go_ret
    exact ⟨rfl, HT.out, ButS.refl _ _ _⟩
  · have h1 : (n == 0) = false := by simp [hn0]
    cases hf : findR n R with
    | none =>
      have hno := findR_none.1 hf
      have hF : dropT R n = (R, 9) := by unfold dropT; rw [if_neg hn0, hf]
      unfold DropPost; rw [hF]
      have h2 : decide (n ∈ nums R) = false := by simp [hno]
      clear h hf hno hF hn0
      go_enter Try.func16, Try.ntmps16
      go_wp2_with fail
      refine HHAS.out.mono ?_
      rintro e w1 ⟨rfl, hb⟩
      have HB := Lib.hid hb; clear hb
      go_wp2_with fail
      go_ret
      exact ⟨rfl, HT.out.butsB HB.out⟩
    | some y =>
      obtain ⟨A, d, C⟩ := y
      obtain ⟨hR, _⟩ := findR_some hf
      have h2 : decide (n ∈ nums R) = true := by simp [hR, nums]
      obtain ⟨A1, m, A2, B, hRS, hIns, hBd, hSt⟩ := cut_sub h.wf hR hn0
      have hF : dropT R n = (A ++ B, 0) := by unfold dropT; rw [if_neg hn0, hf, hBd]
      unfold DropPost; rw [hF]
      have hwf : WfR (A ++ B) next := WfR.rem hIns (by rw [← hRS]; exact h.wf)
      have hSall : ∀ x ∈ subR d C, d < x.2 := subR_all
      have hnd := h.wf.nodup
      rw [hRS] at hnd
      have hln : (A ++ ((n, d) :: subR d C) ++ B).length ≤ 100000 := by rw [← hRS]; exact hm
      have hSl : (subR d C).length ≤ 100000 := by simp at hln ⊢; omega
      have HRS := Lib.hid hRS; have HIN := Lib.hid hIns; have HWF := Lib.hid hwf; have HSA := Lib.hid hSall; have HST := Lib.hid hSt; have HND := Lib.hid hnd; have HLN := Lib.hid hln
      clear h hf hR hRS hIns hBd hSt hF hwf hSall hnd hln hn0
      go_enter Try.func16, Try.ntmps16
      go_wp2_with fail
      refine HHAS.out.mono ?_
      rintro e w1 ⟨rfl, hb⟩
      have HT1 := Lib.hid (HT.out.below hb)
      have HB := Lib.hid hb; clear hb
      go_wp2_with fail
      refine (take_any p bm base A ((n, d) :: subR d C) B A1 A2 (subR d C) m (d - 1) n next w1 (by rw [← HRS.out]; exact HT1.out) HIN.out HLN.out).mono ?_
      rintro e w2 ⟨rfl, hM, hbs⟩
      have HM := Lib.hid hM; have HBS := Lib.hid hbs; clear hM hbs
      go_wp2_with fail
      refine (below_any p bm ((subR d C).length + 1) n d (subR d C) w2 (Nat.lt_succ_self _) hSl HM.out.seg HSA.out HST.out).mono ?_
      rintro e w3 ⟨a, c, rfl, hown, hb3⟩
      have HM3 := Lib.hid (HM.out.buts hb3)
      have HB3 := Lib.hid hb3
      have hks : (n :: nums (subR d C)).length = 1 + (subR d C).length := by simp [nums_length]; omega
      have hI : IntsAt w3 a (n :: nums (subR d C)) := intsAt_owned hown hks
      have hfoot : ∀ b off, a = some ⟨b, off, none⟩ → w2.heap.size ≤ b := fun b off e => by
        have := row_block hown b (by rw [e]; rfl); exact this
      have HI := Lib.hid hI; have HF := Lib.hid hfoot
      clear hown hb3 hI hfoot
      have hksn : (n :: nums (subR d C)).Nodup := by
        have q := HND.out
        rw [nums_append, nums_append] at q
        exact (List.nodup_append.1 (List.nodup_append.1 q).1).2.1
      have HKN := Lib.hid hksn; clear hksn
      have hbm3 : bm < w2.heap.size := HM.out.ok.lt
      generalize hKS : (n :: nums (subR d C)) = ks at *
      have HKS := Lib.hid hKS; clear hKS
      generalize hKL : 1 + (subR d C).length = kl at *
      have HKL := Lib.hid hks; have HKL2 := Lib.hid hKL
      have hkl0 : kl ≤ 200000 := by omega
      clear hks hKL
      go_wp2_with fail
      go_loopw [26] (fun iv wr => StrikeI p bm next ks w3 iv wr) (fun iv _ => kl - (intOf iv).toNat)
      case atStart => unfold StrikeI; exact ⟨0, rfl, Nat.zero_le _, ButS.refl _ _ _, HM3.out.str, HM3.out.ok, fun k => by simp, rfl⟩
      case round =>
        unfold StrikeI at hrel
        obtain ⟨i, rfl, hi, hbs, hs, hok, hlk, hlen⟩ := hrel
        have HBR := Lib.hid hbs; have HS := Lib.hid hs; have HLK := Lib.hid hlk; have HLE := Lib.hid hlen
        rw [HKL.out] at hi
        rcases Nat.lt_or_ge i kl with c1 | c1
        · have c2 : (i : Int) < kl := by omega
          obtain ⟨g, off, rfl, hg, hc⟩ := HI.out (by rw [HKL.out]; omega)
          have hgf := HF.out g off rfl
          have hpw : p < w2.heap.size := HM.out.str.lt
          have g1 := (World.cell?_of_block (w := w3) (a := ⟨g, off + i, none⟩) (hbs.block g hg (fun q => by rcases q with q | q <;> omega))).trans (hc i (by rw [HKL.out]; exact c1))
          have hgw : g < wr.heap.size := Nat.lt_of_lt_of_le hg hbs.size
          have g0 := has_cell hs (o := 0) rfl
          have hpl := hs.lt
          have hkmem : ks.getD i 0 ∉ ks.take i := fun q => by
            obtain ⟨j, hj, e⟩ := List.getElem_of_mem q
            rw [List.getElem_take] at e
            have hjl : j < i := by simp at hj; omega
            have q2 := HKN.out
            rw [List.nodup_iff_pairwise_ne, List.pairwise_iff_getElem] at q2
            refine q2 j i (by rw [HKL.out]; omega) (by rw [HKL.out]; exact c1) hjl ?_
            rw [e]; simp [List.getD_eq_getElem?_getD, show i < ks.length by rw [HKL.out]; exact c1]
          have hpres : mhas (mapOf wr bm) (ks.getD i 0) = true := by
            have hmem : ks.getD i 0 ∈ ks := by
              simp only [List.getD_eq_getElem?_getD, List.getElem?_eq_getElem (show i < ks.length by rw [HKL.out]; exact c1), Option.getD_some]
              exact List.getElem_mem _
            have hmem2 : ks.getD i 0 ∈ nums ((n, d) :: subR d C) := by
              have : nums ((n, d) :: subR d C) = ks := HKS.out
              rw [this]; exact hmem
            obtain ⟨⟨k, e⟩, hx, he⟩ := List.mem_map.1 hmem2
            obtain ⟨X, Y, hXY⟩ := List.append_of_mem hx
            obtain ⟨v, par, hv, _⟩ := HM3.out.fo.det X k e Y hXY
            have he : k = ks.getD i 0 := he
            rw [he] at hv
            have := hlk (ks.getD i 0)
            rw [if_neg hkmem, hv] at this
            exact mhas_some this
          have hsn : ks.take (i + 1) = ks.take i ++ [ks.getD i 0] := take_snoc (by rw [HKL.out]; exact c1)
          generalize hx : ks.getD i 0 = x at *
          have HX := Lib.hid hx; have HP := Lib.hid hpres; have HSN := Lib.hid hsn; have HKM := Lib.hid hkmem
          clear hx hpres hc hlk hlen hbs hs hsn hkmem
          go_wp2_with fail
          go_roundw
          case rel =>
            unfold StrikeI
            have hnd := mapOk_nodup hok
            have hl1 := mdel_length x (mapOf wr bm)
            rw [if_pos HP.out] at hl1
            have hpos : 0 < (mapOf wr bm).length := by
              have hh := HP.out
              cases hq : mapOf wr bm with
              | nil => rw [hq] at hh; cases hh
              | cons _ _ => simp
            refine ⟨i + 1, by go_num, by rw [HKL.out]; omega, HBR.out.del (.inr (.inr rfl)), has_delM (Ne.symm HT.out.ne) HS.out, mapOk_del_same hok, fun k => ?_, ?_⟩
            · rw [mapOf_del_same hok, mlook_del _ _ _ hnd, HLK.out k, HSN.out]
              by_cases c3 : k = x
              · rw [if_pos c3, if_pos (by rw [c3]; simp)]
              · rw [if_neg c3]
                by_cases c4 : k ∈ ks.take i
                · rw [if_pos c4, if_pos (List.mem_append_left _ c4)]
                · rw [if_neg c4, if_neg (by rw [List.mem_append, not_or]; exact ⟨c4, by simp; exact c3⟩)]
            · rw [mapOf_del_same hok, hl1]; have := HLE.out; omega
          case measure => simp [intOf]; omega
        · obtain rfl : i = kl := by omega
          have c2 : decide ((i : Int) < i) = false := by simp
          clear hbs hs hlk hlen
          go_wp2_with fail
          go_ret
          have hall : ks.take i = ks := List.take_of_length_le (by rw [HKL.out]; exact Nat.le_refl _)
          have hks : nums ((n, d) :: subR d C) = ks := HKS.out
          have hfo : Forest wr (fun b => base ≤ b ∧ b ≠ p) (mapOf wr bm) (A ++ B) [] := by
            refine (HM3.out.fo.buts HM3.out.ok HBR.out).drop (fun k hk hq => ?_) (fun k => ?_) ?_
            · obtain ⟨x, hx, rfl⟩ := List.mem_map.1 hk
              obtain ⟨y, hy, e⟩ := List.mem_map.1 hq
              have hnd := HND.out
              rcases List.mem_append.1 hx with hx | hx
              · exact nums_apart (show (nums (A ++ ((n, d) :: subR d C))).Nodup by rw [nums_append] at hnd; exact (List.nodup_append.1 hnd).1) hx hy e.symm
              · exact nums_apart hnd (List.mem_append_right _ hy) hx e
            · rw [HLK.out k, hall, hks]
            · have := HLE.out
              rw [← this]; simp; have q := HKL2.out; omega
          have hzz : w.heap.size ≤ wr.heap.size := Nat.le_trans (Nat.le_trans (Nat.le_trans HB.out.size HBS.out.size) HB3.out.size) HBR.out.size
          refine ⟨rfl, ⟨HS.out, hok, HT.out.ne, Nat.le_trans HT.out.hp hzz, Nat.le_trans HT.out.hp hzz, HWF.out, hfo⟩, ?_⟩
          have h12 := (ButS.of HB.out).trans (HBS.out.less HB.out.size)
          have hz2 : w.heap.size ≤ w2.heap.size := Nat.le_trans HB.out.size HBS.out.size
          have h13 := h12.then HB3.out hz2
          exact h13.trans (HBR.out.less (Nat.le_trans hz2 HB3.out.size))
end Go.Proofs.Ytcpehmlkhmfmhaa
