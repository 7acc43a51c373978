/- BlockStacks, plain: the document's stack is the program's. -/
import Derived.Test.YtbjmncgfbdkidaaBlockR
namespace Go.Proofs.Ytbjmncgfbdkidaa
set_option linter.unusedSimpArgs false
set_option linter.unusedVariables false

def sumZ (a b : Int) : Option Int := if inL (a + b) then some (a + b) else none
def endR (ks : List KidZ) (ys : List Int) (l : Int) : Option Int := if l < 0 then some 0 else sumZ (ys.getD l.toNat 0) (ks.getD l.toNat k0).h
def placeR (ks : List KidZ) (ot : Bool) (ys : List Int) (i : Nat) : Option Int :=
  if 0 ≤ lastF ks i ∨ ot = false then (sumZ (max (mwu ks i (i + 1)) 0) (min (mwd ks i (i + 1)) 0)).bind fun m => (endR ks ys (lastF ks i)).bind fun e => sumZ e m else some 0
def runR (ks : List KidZ) (ot : Bool) : Nat → Option (List Int)
  | 0 => some []
  | i + 1 => (runR ks ot i).bind fun ys => (placeR ks ot ys i).map fun y => ys ++ [y]
def firstF (ks : List KidZ) : Nat → Int
  | 0 => -1
  | i + 1 => if (ks.getD i k0).t = false ∧ firstF ks i < 0 then (i : Int) else firstF ks i
def topU (ks : List KidZ) (ot : Bool) (i : Nat) : Int := if ot = true ∧ 0 ≤ firstF ks i then max (mwu ks (firstF ks i).toNat ((firstF ks i).toNat + 1)) 0 else 0
def topD (ks : List KidZ) (ot : Bool) (i : Nat) : Int := if ot = true ∧ 0 ≤ firstF ks i then min (mwd ks (firstF ks i).toNat ((firstF ks i).toNat + 1)) 0 else 0
def finR (ks : List KidZ) (ot ob : Bool) (ys : List Int) : Option OutZ :=
  if 0 ≤ firstF ks ks.length then (endR ks ys (lastF ks ks.length)).bind fun h =>
    if ob = true then some ⟨ys, max h 0, topU ks ot ks.length, topD ks ot ks.length, max (mwu ks ks.length ks.length) 0, min (mwd ks ks.length ks.length) 0, false⟩
    else (sumZ (max (mwu ks ks.length ks.length) 0) (min (mwd ks ks.length ks.length) 0)).bind fun m => (sumZ h m).map fun h => ⟨ys, max h 0, topU ks ot ks.length, topD ks ot ks.length, 0, 0, false⟩
  else if ot = false ∧ ob = false then (sumZ (max (mwu ks ks.length ks.length) 0) (min (mwd ks ks.length ks.length) 0)).map fun m => ⟨ys, max m 0, 0, 0, 0, 0, false⟩
  else if ot = true then some ⟨ys, 0, max (mwu ks ks.length ks.length) 0, min (mwd ks ks.length ks.length) 0, 0, 0, ob⟩
  else some ⟨ys, 0, 0, 0, max (mwu ks ks.length ks.length) 0, min (mwd ks ks.length ks.length) 0, false⟩
def stackR (ks : List KidZ) (ot ob : Bool) : Option OutZ := (runR ks ot ks.length).bind fun ys => finR ks ot ob ys

/-- A kid as the law makes them. -/
def GoodK (k : KidZ) : Prop := (0 ≤ k.u ∧ k.u ≤ 17592186044415) ∧ (-17592186044415 ≤ k.d ∧ k.d ≤ 0) ∧ (0 ≤ k.au ∧ k.au ≤ 17592186044415) ∧ (-17592186044415 ≤ k.ad ∧ k.ad ≤ 0) ∧ (-17592186044415 ≤ k.h ∧ k.h ≤ 17592186044415)
theorem getD_good {ks : List KidZ} (h : ∀ k ∈ ks, GoodK k) (i : Nat) : GoodK (ks.getD i k0) := by
  rcases Nat.lt_or_ge i ks.length with hi | hi
  · have := h _ (List.getElem_mem hi)
    simpa [List.getD_eq_getElem?_getD, hi] using this
  · rw [List.getD_eq_getElem?_getD, List.getElem?_eq_none hi]
    unfold GoodK k0; simp
theorem wF_in {ks : List KidZ} (h : ∀ k ∈ ks, GoodK k) : ∀ i, (0 ≤ wuF ks i ∧ wuF ks i ≤ 17592186044415) ∧ (-17592186044415 ≤ wdF ks i ∧ wdF ks i ≤ 0)
  | 0 => by simp [wuF, wdF]
  | i + 1 => by
    have ih := wF_in h i
    have g := getD_good h i
    unfold GoodK at g
    unfold wuF wdF
    split <;> omega
theorem addF_cut' {s : Int} (h : inL s) (r : List Int) : addF 0 (s :: r) = addF s r := by
  rw [addF_exact (by unfold inL; omega), Int.zero_add, if_pos h]
theorem addF_sumZ {e m : Int} (he : inL e) : addF 0 [e, m] = sumZ e m := by
  rw [addF_cut' he, addF_exact he]; rfl
theorem first_last (ks : List KidZ) : ∀ i, (firstF ks i < 0 ↔ lastF ks i < 0)
  | 0 => by simp [firstF, lastF]
  | i + 1 => by
    have ih := first_last ks i
    unfold firstF lastF
    cases ht : (ks.getD i k0).t
    · by_cases h : firstF ks i < 0
      · simp [h]
      · simp [h]
    · simp [ih]
theorem firstF_lt (ks : List KidZ) : ∀ i, firstF ks i < i
  | 0 => by simp [firstF]
  | i + 1 => by
    have := firstF_lt ks i
    unfold firstF
    split <;> omega
theorem runZ_snoc (ot : Bool) (k : KidZ) : ∀ (l : List KidZ) (s : StZ) (ys : List Int) (bu bd : Int), runZ ot s ys bu bd (l ++ [k]) = (runZ ot s ys bu bd l).bind fun q => (stepZ ot q.1 k).map fun p => (p.1, q.2.1 ++ [p.2.1], max q.2.2.1 p.2.2.1, min q.2.2.2 p.2.2.2)
  | [], s, ys, bu, bd => by
    simp only [List.nil_append, runZ, Option.bind_some]
    cases stepZ ot s k <;> rfl
  | x :: l, s, ys, bu, bd => by
    simp only [List.cons_append, runZ]
    cases stepZ ot s x with
    | none => rfl
    | some q => exact runZ_snoc ot k l _ _ _ _
/-- What is so of a prefix. -/
def Pref (ks : List KidZ) (ot : Bool) (i : Nat) (z : Option (StZ × List Int × Int × Int)) : Prop :=
  match runR ks ot i with
  | none => z = none
  | some ys => ys.length = i ∧ (∀ y ∈ ys, inL y) ∧ match endR ks ys (lastF ks i) with
    | none => z = none
    | some e => inL e ∧ z = some (⟨e, wuF ks i, wdF ks i, decide (0 ≤ lastF ks i)⟩, ys, topU ks ot i, topD ks ot i)
theorem sumZ_in {a b c : Int} (h : sumZ a b = some c) : inL c := by
  unfold sumZ at h
  split at h
  · cases h; assumption
  · cases h
theorem endR_in {ks : List KidZ} {ys : List Int} {l e : Int} (h : endR ks ys l = some e) : inL e := by
  unfold endR at h
  split at h
  · cases h; unfold inL; omega
  · exact sumZ_in h
theorem getD_snoc_lt {ys : List Int} {y : Int} {i : Nat} (h : i < ys.length) : (ys ++ [y]).getD i 0 = ys.getD i 0 := by
  simp [List.getD_eq_getElem?_getD, List.getElem?_append_left h]
theorem getD_snoc_at {ys : List Int} {y : Int} : (ys ++ [y]).getD ys.length 0 = y := by
  simp [List.getD_eq_getElem?_getD]
theorem pref_all {ks : List KidZ} (h : ∀ k ∈ ks, GoodK k) (ot : Bool) : ∀ i, i ≤ ks.length → Pref ks ot i (runZ ot ⟨0, 0, 0, false⟩ [] 0 0 (ks.take i))
  | 0, _ => by
    unfold Pref
    simp only [runR, List.length_nil, List.take_zero, runZ, true_and]
    refine ⟨by simp, ?_⟩
    have e : endR ks [] (lastF ks 0) = some 0 := by unfold endR; rw [if_pos (by simp [lastF])]
    rw [e]
    exact ⟨by unfold inL; omega, by simp [wuF, wdF, lastF, topU, topD, firstF]⟩
  | i + 1, hi => by
    have ih := pref_all h ot i (by omega)
    have htk : ks.take (i + 1) = ks.take i ++ [ks.getD i k0] := by
      rw [List.take_succ_eq_append_getElem (by omega)]; simp [List.getD_eq_getElem?_getD, show i < ks.length by omega]
    rw [htk, runZ_snoc]
    have g := getD_good h i
    have hw := wF_in h i
    have hm : mwu ks i (i + 1) = max (wuF ks i) (ks.getD i k0).u ∧ mwd ks i (i + 1) = min (wdF ks i) (ks.getD i k0).d := by
      unfold mwu mwd; rw [if_neg (by omega), if_neg (by omega)]; exact ⟨rfl, rfl⟩
    have hfl := first_last ks i
    obtain ⟨li1, li2⟩ := lastF_in ks i
    generalize hz : runZ ot ⟨0, 0, 0, false⟩ [] 0 0 (ks.take i) = z at ih ⊢
    unfold Pref at ih ⊢
    rw [runR]
    cases hr : runR ks ot i with
    | none => rw [hr] at ih; simp only at ih; rw [ih]; rfl
    | some ys =>
      rw [hr] at ih
      simp only at ih
      obtain ⟨hyl, hyi, he⟩ := ih
      simp only [Option.bind_some]
      cases hen : endR ks ys (lastF ks i) with
      | none =>
        rw [hen] at he
        simp only at he
        have hl0 : 0 ≤ lastF ks i := by
          rcases Int.lt_or_le (lastF ks i) 0 with h1 | h1
          · unfold endR at hen; rw [if_pos h1] at hen; cases hen
          · exact h1
        have hp : placeR ks ot ys i = none := by
          unfold placeR
          rw [if_pos (.inl hl0), hen]
          cases sumZ (max (mwu ks i (i + 1)) 0) (min (mwd ks i (i + 1)) 0) <;> rfl
        rw [hp, he]; rfl
      | some e =>
        rw [hen] at he
        simp only at he
        obtain ⟨hei, hz2⟩ := he
        rw [hz2]
        simp only [Option.bind_some]
        unfold GoodK at g
        generalize hk : ks.getD i k0 = k at *
        have hU : max (max (wuF ks i) k.u) 0 = max (wuF ks i) k.u := by omega
        have hD : min (min (wdF ks i) k.d) 0 = min (wdF ks i) k.d := by omega
        have hUD : sumZ (max (wuF ks i) k.u) (min (wdF ks i) k.d) = some (max (wuF ks i) k.u + min (wdF ks i) k.d) := by unfold sumZ; rw [if_pos (by unfold inL; omega)]
        have hpl : plc ot ⟨e, max (wuF ks i) k.u, min (wdF ks i) k.d, decide (0 ≤ lastF ks i)⟩ = placeR ks ot ys i := by
          unfold plc placeR
          rw [hm.1, hm.2, hU, hD, hUD, hen]
          dsimp only [Option.bind_some]
          rw [addF_sumZ (by unfold inL; omega), hUD]
          dsimp only [Option.bind_some]
          rw [addF_sumZ hei]
          by_cases h1 : 0 ≤ lastF ks i
          · rw [if_neg (by simp [h1]), if_pos (.inl h1)]
          · cases ot
            · rw [if_neg (by simp), if_pos (.inr rfl)]
            · rw [if_pos (by simp; omega), if_neg (by simp; omega)]
        unfold stepZ
        dsimp only
        rw [hpl]
        cases hpy : placeR ks ot ys i with
        | none => rfl
        | some y =>
          simp only [Option.map_some, Option.bind_some]
          have hyin : inL y := by
            unfold placeR at hpy
            split at hpy
            · rw [hm.1, hm.2, hU, hD, hUD, hen] at hpy
              exact sumZ_in hpy
            · cases hpy; unfold inL; omega
          refine ⟨by simp [hyl], fun y' hy' => ?_, ?_⟩
          · rcases List.mem_append.1 hy' with h1 | h1
            · exact hyi y' h1
            · simp at h1; rw [h1]; exact hyin
          have hl : lastF ks (i + 1) = if k.t = true then lastF ks i else (i : Int) := by rw [lastF, hk]
          have hwu : wuF ks (i + 1) = if k.t = true then max (wuF ks i) k.u else k.au := by rw [wuF, hk]
          have hwd : wdF ks (i + 1) = if k.t = true then min (wdF ks i) k.d else k.ad := by rw [wdF, hk]
          have hff : firstF ks (i + 1) = if k.t = false ∧ firstF ks i < 0 then (i : Int) else firstF ks i := by rw [firstF, hk]
          rw [hl, hwu, hwd]
          have htop : 0 ≤ topU ks ot i ∧ topD ks ot i ≤ 0 := by unfold topU topD; split <;> omega
          cases ht : k.t
          · simp only [Bool.false_eq_true, if_false]
            have hen2 : endR ks (ys ++ [y]) (i : Int) = sumZ y k.h := by
              unfold endR
              rw [if_neg (by omega), Int.toNat_natCast, hk, ← hyl, getD_snoc_at]
            rw [hen2, addF_sumZ hyin]
            cases hs : sumZ y k.h with
            | none => rfl
            | some e2 =>
              refine ⟨sumZ_in hs, ?_⟩
              simp only [Option.map_some]
              have hld : decide ((0 : Int) ≤ (i : Int)) = true := by simp
              rw [hld]
              have e1 : topU ks ot (i + 1) = max (topU ks ot i) (if ot = true ∧ decide (0 ≤ lastF ks i) = false then max (wuF ks i) k.u else 0) := by
                unfold topU
                rw [hff]
                by_cases h1 : firstF ks i < 0
                · have h2 := hfl.1 h1
                  rw [if_pos (show k.t = false ∧ firstF ks i < 0 from ⟨ht, h1⟩), Int.toNat_natCast, hm.1, hU]
                  cases ot
                  · simp
                  · have h3 : decide (0 ≤ lastF ks i) = false := by simp; omega
                    rw [h3, if_pos ⟨rfl, by omega⟩, if_neg (by simp; omega), if_pos ⟨rfl, rfl⟩]; omega
                · have h2 : ¬ lastF ks i < 0 := fun q => h1 (hfl.2 q)
                  have h3 : decide (0 ≤ lastF ks i) = true := by simp; omega
                  rw [if_neg (show ¬ (k.t = false ∧ firstF ks i < 0) from fun q => h1 q.2), h3]
                  simp only [Bool.true_eq_false, and_false, if_false]
                  split <;> omega
              have e2 : topD ks ot (i + 1) = min (topD ks ot i) (if ot = true ∧ decide (0 ≤ lastF ks i) = false then min (wdF ks i) k.d else 0) := by
                unfold topD
                rw [hff]
                by_cases h1 : firstF ks i < 0
                · have h2 := hfl.1 h1
                  rw [if_pos (show k.t = false ∧ firstF ks i < 0 from ⟨ht, h1⟩), Int.toNat_natCast, hm.2, hD]
                  cases ot
                  · simp
                  · have h3 : decide (0 ≤ lastF ks i) = false := by simp; omega
                    rw [h3, if_pos ⟨rfl, by omega⟩, if_neg (by simp; omega), if_pos ⟨rfl, rfl⟩]; omega
                · have h2 : ¬ lastF ks i < 0 := fun q => h1 (hfl.2 q)
                  have h3 : decide (0 ≤ lastF ks i) = true := by simp; omega
                  rw [if_neg (show ¬ (k.t = false ∧ firstF ks i < 0) from fun q => h1 q.2), h3]
                  simp only [Bool.true_eq_false, and_false, if_false]
                  split <;> omega
              rw [e1, e2]
          · simp only [if_true]
            have hen2 : endR ks (ys ++ [y]) (lastF ks i) = some e := by
              rw [← hen]
              unfold endR
              split
              · rfl
              · rw [getD_snoc_lt (by omega)]
            rw [hen2]
            refine ⟨hei, ?_⟩
            have e0 : firstF ks (i + 1) = firstF ks i := by rw [hff, if_neg (by rw [ht]; simp)]
            have e1 : topU ks ot (i + 1) = max (topU ks ot i) 0 := by
              have : topU ks ot (i + 1) = topU ks ot i := by unfold topU; rw [e0]
              omega
            have e2 : topD ks ot (i + 1) = min (topD ks ot i) 0 := by
              have : topD ks ot (i + 1) = topD ks ot i := by unfold topD; rw [e0]
              omega
            rw [e1, e2]
            rfl
theorem stack_same {ks : List KidZ} (h : ∀ k ∈ ks, GoodK k) (ot ob : Bool) : stackR ks ot ob = stackZ ks ot ob := by
  have hp := pref_all h ot ks.length (Nat.le_refl _)
  rw [List.take_length] at hp
  have hw := wF_in h ks.length
  have hfl := first_last ks ks.length
  have m1 : mwu ks ks.length ks.length = wuF ks ks.length := by unfold mwu; rw [if_pos (Nat.le_refl _)]
  have m2 : mwd ks ks.length ks.length = wdF ks ks.length := by unfold mwd; rw [if_pos (Nat.le_refl _)]
  unfold stackR stackZ
  unfold Pref at hp
  cases hr : runR ks ot ks.length with
  | none => rw [hr] at hp; simp only at hp; rw [hp]; rfl
  | some ys =>
    rw [hr] at hp
    simp only at hp
    obtain ⟨hyl, hyi, he⟩ := hp
    simp only [Option.bind_some]
    unfold finR
    rw [m1, m2]
    have hU : max (wuF ks ks.length) 0 = wuF ks ks.length := by omega
    have hD : min (wdF ks ks.length) 0 = wdF ks ks.length := by omega
    have hUD : sumZ (wuF ks ks.length) (wdF ks ks.length) = some (wuF ks ks.length + wdF ks ks.length) := by unfold sumZ; rw [if_pos (by unfold inL; omega)]
    rw [hU, hD, hUD]
    cases hen : endR ks ys (lastF ks ks.length) with
    | none =>
      rw [hen] at he
      simp only at he
      have hl0 : 0 ≤ lastF ks ks.length := by
        rcases Int.lt_or_le (lastF ks ks.length) 0 with h1 | h1
        · unfold endR at hen; rw [if_pos h1] at hen; cases hen
        · exact h1
      rw [he, if_pos (by omega)]; rfl
    | some e =>
      rw [hen] at he
      simp only at he
      obtain ⟨hei, hz⟩ := he
      rw [hz]
      simp only [Option.bind_some]
      unfold endZ
      dsimp only
      rw [addF_sumZ (by unfold inL; omega), hUD]
      simp only [Option.bind_some]
      rw [addF_sumZ hei]
      by_cases h1 : 0 ≤ lastF ks ks.length
      · have h2 : 0 ≤ firstF ks ks.length := by omega
        have h3 : decide (0 ≤ lastF ks ks.length) = true := by simp [h1]
        rw [if_pos h2, h3]
        cases ob
        · rw [if_neg (by simp), if_neg (by simp), if_pos (.inl rfl)]
        · rw [if_pos rfl, if_pos ⟨rfl, rfl⟩]
      · have h2 : ¬ 0 ≤ firstF ks ks.length := by omega
        have h3 : decide (0 ≤ lastF ks ks.length) = false := by simp; omega
        have he0 : e = 0 := by unfold endR at hen; rw [if_pos (by omega)] at hen; cases hen; rfl
        subst he0
        have t1 : topU ks ot ks.length = 0 := by unfold topU; rw [if_neg (fun q => h2 q.2)]
        have t2 : topD ks ot ks.length = 0 := by unfold topD; rw [if_neg (fun q => h2 q.2)]
        have hs0 : sumZ 0 (wuF ks ks.length + wdF ks ks.length) = some (wuF ks ks.length + wdF ks ks.length) := by unfold sumZ; rw [Int.zero_add, if_pos (by unfold inL; omega)]
        rw [if_neg h2, h3, t1, t2, hs0]
        cases ot <;> cases ob <;> simp
end Go.Proofs.Ytbjmncgfbdkidaa
