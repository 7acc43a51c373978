/- Blocks that stand one below the other, plain. -/
import Derived.Test.YtbjmncgfbdkidaaAdd
namespace Go.Proofs.Ytbjmncgfbdkidaa
set_option linter.unusedSimpArgs false
set_option linter.unusedVariables false

/-- A kid: the margins at its top and its bottom, its height, whether they meet through it. -/
structure KidZ where
  u : Int
  d : Int
  au : Int
  ad : Int
  h : Int
  t : Bool
/-- How far the kids are laid. -/
structure StZ where
  en : Int
  wu : Int
  wd : Int
  ld : Bool
/-- What is handed back. -/
structure OutZ where
  ys : List Int
  h : Int
  bu : Int
  bd : Int
  au : Int
  ad : Int
  t : Bool
def plc (ot : Bool) (s : StZ) : Option Int := if ot = true ∧ s.ld = false then some 0 else (addF 0 [s.wu, s.wd]).bind fun m => addF 0 [s.en, m]
/-- One kid more: its place, and what its top meets. -/
def stepZ (ot : Bool) (s : StZ) (k : KidZ) : Option (StZ × Int × Int × Int) :=
  (plc ot ⟨s.en, max s.wu k.u, min s.wd k.d, s.ld⟩).bind fun y =>
  if k.t then some (⟨s.en, max s.wu k.u, min s.wd k.d, s.ld⟩, y, 0, 0)
  else (addF 0 [y, k.h]).map fun e => (⟨e, k.au, k.ad, true⟩, y, (if ot = true ∧ s.ld = false then max s.wu k.u else 0), (if ot = true ∧ s.ld = false then min s.wd k.d else 0))
def runZ (ot : Bool) : StZ → List Int → Int → Int → List KidZ → Option (StZ × List Int × Int × Int)
  | s, ys, bu, bd, [] => some (s, ys, bu, bd)
  | s, ys, bu, bd, k :: r => (stepZ ot s k).bind fun q => runZ ot q.1 (ys ++ [q.2.1]) (max bu q.2.2.1) (min bd q.2.2.2) r
def endZ (ot ob : Bool) (s : StZ) (ys : List Int) (bu bd : Int) : Option OutZ :=
  if s.ld = true ∧ ob = true then some ⟨ys, max s.en 0, bu, bd, s.wu, s.wd, false⟩
  else if s.ld = true ∨ (ot = false ∧ ob = false) then (addF 0 [s.wu, s.wd]).bind fun m => (addF 0 [s.en, m]).map fun h => ⟨ys, max h 0, bu, bd, 0, 0, false⟩
  else if ot = true then some ⟨ys, 0, s.wu, s.wd, 0, 0, ob⟩
  else some ⟨ys, 0, bu, bd, s.wu, s.wd, false⟩
def stackZ (ks : List KidZ) (ot ob : Bool) : Option OutZ := (runZ ot ⟨0, 0, 0, false⟩ [] 0 0 ks).bind fun q => endZ ot ob q.1 q.2.1 q.2.2.1 q.2.2.2

theorem addF_two {x y : Int} (h1 : -17592186044416 ≤ x) (h2 : x ≤ 17592186044416) (h3 : -17592186044416 ≤ x + y) (h4 : x + y ≤ 17592186044416) : addF 0 [x, y] = some (x + y) := by
  have c1 : clip x = x := by unfold clip; omega
  have c2 : clip y = y := by unfold clip; omega
  simp only [addF, c1, c2]
  rw [if_pos (by omega), if_pos (by omega)]
  congr 1; omega
/-- A kid of small numbers, none below 0. -/
def SmallK (k : KidZ) : Prop := 0 ≤ k.u ∧ k.u ≤ 65535 ∧ k.d = 0 ∧ 0 ≤ k.au ∧ k.au ≤ 65535 ∧ k.ad = 0 ∧ 0 ≤ k.h ∧ k.h ≤ 65535 ∧ (k.t = true → k.h = 0)
def k0 : KidZ := ⟨0, 0, 0, 0, 0, true⟩
/-- What is so of the places of kids in a closed block, from an end on. -/
def Ordered (X : Int) (E : Int) (ks : List KidZ) (zs : List Int) : Prop :=
  ∀ i, i < ks.length → X ≤ zs.getD i 0 ∧ (ks.getD i k0).u ≤ zs.getD i 0 ∧ zs.getD i 0 + (ks.getD i k0).h ≤ E ∧ ((ks.getD i k0).t = false → zs.getD i 0 + (ks.getD i k0).h + (ks.getD i k0).au ≤ E) ∧
    (0 < i → zs.getD (i - 1) 0 + (ks.getD (i - 1) k0).h ≤ zs.getD i 0 ∧ ((ks.getD (i - 1) k0).t = false → zs.getD i 0 = zs.getD (i - 1) 0 + (ks.getD (i - 1) k0).h + max (ks.getD (i - 1) k0).au (ks.getD i k0).u))
theorem step_closed {s : StZ} {k : KidZ} (h : SmallK k) (h1 : 0 ≤ s.en) (h2 : 0 ≤ s.wu) (h3 : s.wu ≤ 65535) (h4 : s.wd = 0) (h5 : s.en + 131070 ≤ 17592186044416) :
    stepZ false s k = some ((if k.t then ⟨s.en, max s.wu k.u, 0, s.ld⟩ else ⟨s.en + max s.wu k.u + k.h, k.au, 0, true⟩), s.en + max s.wu k.u, 0, 0) := by
  obtain ⟨a1, a2, a3, a4, a5, a6, a7, a8, a9⟩ := h
  have e1 : min s.wd k.d = 0 := by omega
  have p : addF 0 [max s.wu k.u, 0] = some (max s.wu k.u) := by rw [addF_two (by omega) (by omega) (by omega) (by omega)]; simp
  have q : addF 0 [s.en, max s.wu k.u] = some (s.en + max s.wu k.u) := addF_two (by omega) (by omega) (by omega) (by omega)
  have r : addF 0 [s.en + max s.wu k.u, k.h] = some (s.en + max s.wu k.u + k.h) := addF_two (by omega) (by omega) (by omega) (by omega)
  unfold stepZ plc
  rw [e1]
  dsimp only
  rw [if_neg (by simp), p]
  dsimp only [Option.bind_some]
  rw [q]
  dsimp only [Option.bind_some]
  cases ht : k.t
  · simp [r, a6]
  · simp
theorem run_closed : ∀ (ks : List KidZ) (s : StZ) (ys : List Int), (∀ k ∈ ks, SmallK k) → 0 ≤ s.en → 0 ≤ s.wu → s.wu ≤ 65535 → s.wd = 0 → s.en + 131070 * ((ks.length : Int) + 1) ≤ 17592186044416 →
    ∃ s' zs, runZ false s ys 0 0 ks = some (s', ys ++ zs, 0, 0) ∧ zs.length = ks.length ∧ 0 ≤ s'.en ∧ s.en + s.wu ≤ s'.en + s'.wu ∧ 0 ≤ s'.wu ∧ s'.wu ≤ 65535 ∧ s'.wd = 0 ∧ s'.en ≤ s.en + 131070 * (ks.length : Int) ∧ (0 < ks.length → zs.getD 0 0 = s.en + max s.wu (ks.getD 0 k0).u) ∧ Ordered (s.en + s.wu) (s'.en + s'.wu) ks zs
  | [], s, ys, _, h1, h2, h3, h4, _ => ⟨s, [], by simp [runZ], rfl, h1, Int.le_refl _, h2, h3, h4, by simp, by simp, fun i hi => by simp at hi⟩
  | k :: r, s, ys, h, h1, h2, h3, h4, h5 => by
    have hk := h k (List.mem_cons_self ..)
    simp only [List.length_cons] at h5
    have e := step_closed hk h1 h2 h3 h4 (by omega)
    obtain ⟨a1, a2, a3, a4, a5, a6, a7, a8, a9⟩ := hk
    generalize hs1 : (if k.t then (⟨s.en, max s.wu k.u, 0, s.ld⟩ : StZ) else ⟨s.en + max s.wu k.u + k.h, k.au, 0, true⟩) = s1 at e
    have b : 0 ≤ s1.en ∧ 0 ≤ s1.wu ∧ s1.wu ≤ 65535 ∧ s1.wd = 0 ∧ s1.en ≤ s.en + 131070 ∧ s.en + max s.wu k.u + k.h ≤ s1.en + s1.wu ∧ (k.t = false → s1.en = s.en + max s.wu k.u + k.h ∧ s1.wu = k.au) ∧ s.en ≤ s1.en := by
      subst hs1
      cases ht : k.t
      · simp; omega
      · have := a9 ht
        simp; omega
    obtain ⟨b1, b2, b3, b4, b5, b6, b7, b8⟩ := b
    obtain ⟨s', zs, g1, g2, g3, g4, g5, g6, g7, g8, g9, g10⟩ := run_closed r s1 (ys ++ [s.en + max s.wu k.u]) (fun x hx => h x (List.mem_cons_of_mem _ hx)) b1 b2 b3 b4 (by omega)
    refine ⟨s', (s.en + max s.wu k.u) :: zs, ?_, by simp [g2], g3, by omega, g5, g6, g7, by simp only [List.length_cons]; omega, by simp, ?_⟩
    · rw [runZ, e]; dsimp only [Option.bind_some]; rw [show max (0 : Int) 0 = 0 by omega, show min (0 : Int) 0 = 0 by omega, g1]; simp
    · intro i hi
      rcases i with _ | i
      · refine ⟨by simp; omega, by simp; omega, by simp; omega, ?_, by omega⟩
        intro ht
        have := b7 (by simpa using ht)
        simp; omega
      · simp only [List.length_cons] at hi
        obtain ⟨q1, q2, q3, q4, q5⟩ := g10 i (by omega)
        refine ⟨by simp only [List.getD_cons_succ]; omega, by simpa using q2, by simpa using q3, by simpa using q4, fun _ => ?_⟩
        rcases i with _ | i
        · have g := g9 (by omega)
          simp only [List.getD_cons_succ, Nat.zero_add, Nat.sub_self, List.getD_cons_zero]
          refine ⟨by omega, fun ht => ?_⟩
          have := b7 ht
          omega
        · have := q5 (by omega)
          simpa using this
theorem stack_closed {ks : List KidZ} (h : ∀ k ∈ ks, SmallK k) (hn : ks.length ≤ 30) :
    ∃ zs H, stackZ ks false false = some ⟨zs, H, 0, 0, 0, 0, false⟩ ∧ zs.length = ks.length ∧ 0 ≤ H ∧ H ≤ 10000000 ∧ Ordered 0 H ks zs := by
  obtain ⟨s', zs, g1, g2, g3, g4, g5, g6, g7, g8, g9, g10⟩ := run_closed ks ⟨0, 0, 0, false⟩ [] h (by simp) (by simp) (by simp) (by simp) (by simp; omega)
  dsimp only at g4 g8 g9 g10
  have p : addF 0 [s'.wu, s'.wd] = some s'.wu := by rw [addF_two (by omega) (by omega) (by omega) (by omega)]; simp [g7]
  have q : addF 0 [s'.en, s'.wu] = some (s'.en + s'.wu) := addF_two (by omega) (by omega) (by omega) (by omega)
  refine ⟨zs, s'.en + s'.wu, ?_, g2, by omega, by omega, by simpa using g10⟩
  unfold stackZ
  rw [g1]
  dsimp only [Option.bind_some]
  unfold endZ
  rw [if_neg (by simp), if_pos (by simp), p]
  dsimp only [Option.bind_some]
  rw [q]
  simp; omega
/-- What an open run and a closed one have in common. -/
def Alike (o c : StZ) (B : Int) : Prop := o.wu = c.wu ∧ o.ld = c.ld ∧ c.en = o.en + B ∧ o.wd = 0 ∧ 0 ≤ B ∧ 0 ≤ o.en ∧ (o.ld = false → o.en = 0 ∧ B = 0)
theorem step_open {s : StZ} {k : KidZ} (h : SmallK k) (h1 : 0 ≤ s.en) (h2 : 0 ≤ s.wu) (h3 : s.wu ≤ 65535) (h4 : s.wd = 0) (h5 : s.en + 131070 ≤ 17592186044416) (h6 : s.ld = false → s.en = 0) :
    stepZ true s k = some ((if k.t then ⟨s.en, max s.wu k.u, 0, s.ld⟩ else ⟨(if s.ld then s.en + max s.wu k.u else 0) + k.h, k.au, 0, true⟩), (if s.ld then s.en + max s.wu k.u else 0), (if s.ld = false ∧ k.t = false then max s.wu k.u else 0), 0) := by
  obtain ⟨a1, a2, a3, a4, a5, a6, a7, a8, a9⟩ := h
  have e1 : min s.wd k.d = 0 := by omega
  have p : addF 0 [max s.wu k.u, 0] = some (max s.wu k.u) := by rw [addF_two (by omega) (by omega) (by omega) (by omega)]; simp
  have q : addF 0 [s.en, max s.wu k.u] = some (s.en + max s.wu k.u) := addF_two (by omega) (by omega) (by omega) (by omega)
  have r : addF 0 [s.en + max s.wu k.u, k.h] = some (s.en + max s.wu k.u + k.h) := addF_two (by omega) (by omega) (by omega) (by omega)
  have r0 : addF 0 [0, k.h] = some (0 + k.h) := addF_two (by omega) (by omega) (by omega) (by omega)
  unfold stepZ plc
  rw [e1]
  dsimp only
  cases hl : s.ld
  · rw [if_pos (by simp)]
    dsimp only [Option.bind_some]
    cases ht : k.t
    · simp [r0, a6, a3]
    · simp
  · rw [if_neg (by simp), p]
    dsimp only [Option.bind_some]
    rw [q]
    dsimp only [Option.bind_some]
    cases ht : k.t
    · simp [r, a6]
    · simp
theorem run_open : ∀ (ks : List KidZ) (o c : StZ) (ys xs : List Int) (B : Int), (∀ k ∈ ks, SmallK k) → Alike o c B → 0 ≤ c.en → 0 ≤ c.wu → c.wu ≤ 65535 → c.wd = 0 → c.en + 131070 * ((ks.length : Int) + 1) ≤ 17592186044416 →
    ∃ o' c' zo zc B', runZ true o ys B 0 ks = some (o', ys ++ zo, B', 0) ∧ runZ false c xs 0 0 ks = some (c', xs ++ zc, 0, 0) ∧ zo.length = ks.length ∧ zc.length = ks.length ∧ Alike o' c' B' ∧ 0 ≤ c'.en ∧ 0 ≤ c'.wu ∧ c'.wu ≤ 65535 ∧ c'.wd = 0 ∧ c'.en ≤ c.en + 131070 * (ks.length : Int) ∧ (o.ld = true → B' = B) ∧ o'.ld = (o.ld || ks.any (fun k => !k.t)) ∧
      ∀ i, i < ks.length → (o.ld || (ks.take (i + 1)).any (fun k => !k.t)) = true → zc.getD i 0 = B' + zo.getD i 0
  | [], o, c, ys, xs, B, _, ha, h1, h2, h3, h4, _ => ⟨o, c, [], [], B, by simp [runZ], by simp [runZ], rfl, rfl, ha, h1, h2, h3, h4, by simp, fun _ => rfl, by simp, fun i hi => by simp at hi⟩
  | k :: r, o, c, ys, xs, B, h, ha, h1, h2, h3, h4, h5 => by
    have hk := h k (List.mem_cons_self ..)
    simp only [List.length_cons] at h5
    obtain ⟨m1, m2, m3, m4, m5, m6, m7⟩ := ha
    have e := step_closed hk h1 h2 h3 h4 (by omega)
    have f := step_open (s := o) hk m6 (by omega) (by omega) m4 (by omega) (fun q => (m7 q).1)
    obtain ⟨a1, a2, a3, a4, a5, a6, a7, a8, a9⟩ := hk
    generalize hc1 : (if k.t then (⟨c.en, max c.wu k.u, 0, c.ld⟩ : StZ) else ⟨c.en + max c.wu k.u + k.h, k.au, 0, true⟩) = c1 at e
    generalize ho1 : (if k.t then (⟨o.en, max o.wu k.u, 0, o.ld⟩ : StZ) else ⟨(if o.ld then o.en + max o.wu k.u else 0) + k.h, k.au, 0, true⟩) = o1 at f
    generalize hb1 : (if o.ld = false ∧ k.t = false then max o.wu k.u else 0) = b1 at f
    generalize hy1 : (if o.ld then o.en + max o.wu k.u else 0) = y1 at f ho1
    have b : Alike o1 c1 (max B b1) ∧ 0 ≤ c1.en ∧ 0 ≤ c1.wu ∧ c1.wu ≤ 65535 ∧ c1.wd = 0 ∧ c1.en ≤ c.en + 131070 ∧ (o.ld = true → max B b1 = B) ∧ o1.ld = (o.ld || !k.t) ∧ ((o.ld || !k.t) = true → c.en + max c.wu k.u = max B b1 + y1) := by
      subst hc1 ho1 hb1 hy1
      unfold Alike
      cases ht : k.t <;> cases hl : o.ld
      · have := m7 hl
        simp; omega
      · simp; omega
      · have := m7 hl
        have := a9 ht
        simp [← m2, hl]; omega
      · have := a9 ht
        simp [← m2, hl]; omega
    obtain ⟨b0, b2, b3, b4, b5, b6, b7, b8, b9⟩ := b
    obtain ⟨o', c', zo, zc, B', g1, g2, g3, g4, g5, g6, g7, g8, g9, g10, g11, g12, g13⟩ := run_open r o1 c1 (ys ++ [y1]) (xs ++ [c.en + max c.wu k.u]) (max B b1) (fun x hx => h x (List.mem_cons_of_mem _ hx)) b0 b2 b3 b4 b5 (by omega)
    refine ⟨o', c', y1 :: zo, (c.en + max c.wu k.u) :: zc, B', ?_, ?_, by simp [g3], by simp [g4], g5, g6, g7, g8, g9, by simp only [List.length_cons]; omega, fun q => ?_, ?_, ?_⟩
    · rw [runZ, f]; dsimp only [Option.bind_some]; rw [show min (0 : Int) 0 = 0 by omega, g1]; simp
    · rw [runZ, e]; dsimp only [Option.bind_some]; rw [show max (0 : Int) 0 = 0 by omega, show min (0 : Int) 0 = 0 by omega, g2]; simp
    · rw [g11 (by rw [b8, q]; rfl), b7 q]
    · rw [g12, b8]; simp [Bool.or_assoc]
    · intro i hi hq
      rcases i with _ | i
      · have hq' : (o.ld || !k.t) = true := by simpa using hq
        simp only [List.getD_cons_zero]
        rw [b9 hq', g11 (by rw [b8]; exact hq')]
      · simp only [List.length_cons] at hi
        simpa using g13 i (by omega) (by rw [b8]; simpa [Bool.or_assoc] using hq)
/-- The three that the law lays: open, closed, and the open one put into a closed one. -/
theorem stack_opens {ks : List KidZ} (h : ∀ k ∈ ks, SmallK k) (hn : ks.length ≤ 30) :
    ∃ zo zc H B A P Z, stackZ ks true true = some ⟨zo, H, B, 0, A, 0, P⟩ ∧ stackZ ks false false = some ⟨zc, Z, 0, 0, 0, 0, false⟩ ∧ stackZ [⟨B, 0, A, 0, H, P⟩] false false = some ⟨[B], Z, 0, 0, 0, 0, false⟩ ∧ zo.length = ks.length ∧ zc.length = ks.length ∧ P = !(ks.any fun k => !k.t) ∧
      0 ≤ B ∧ B ≤ 10000000 ∧ ∀ i, i < ks.length → (ks.take (i + 1)).any (fun k => !k.t) = true → zc.getD i 0 = B + zo.getD i 0 := by
  obtain ⟨o', c', zo, zc, B', g1, g2, g3, g4, g5, g6, g7, g8, g9, g10, g11, g12, g13⟩ := run_open ks ⟨0, 0, 0, false⟩ ⟨0, 0, 0, false⟩ [] [] 0 h ⟨rfl, rfl, by simp, rfl, by simp, by simp, fun _ => by simp⟩ (by simp) (by simp) (by simp) (by simp) (by simp; omega)
  obtain ⟨m1, m2, m3, m4, m5, m6, m7⟩ := g5
  dsimp only at g10 g12 g13
  simp only [Bool.false_or] at g12 g13
  have p : addF 0 [c'.wu, c'.wd] = some c'.wu := by rw [addF_two (by omega) (by omega) (by omega) (by omega)]; simp [g9]
  have q : addF 0 [c'.en, c'.wu] = some (c'.en + c'.wu) := addF_two (by omega) (by omega) (by omega) (by omega)
  have hc : stackZ ks false false = some ⟨zc, c'.en + c'.wu, 0, 0, 0, 0, false⟩ := by
    unfold stackZ
    rw [g2]
    dsimp only [Option.bind_some]
    unfold endZ
    rw [if_neg (by simp), if_pos (by simp), p]
    dsimp only [Option.bind_some]
    rw [q]
    simp; omega
  cases hl : o'.ld
  · obtain ⟨hz1, hz2⟩ := m7 hl
    have ho : stackZ ks true true = some ⟨zo, 0, o'.wu, 0, 0, 0, true⟩ := by
      unfold stackZ
      rw [g1]
      dsimp only [Option.bind_some]
      unfold endZ
      rw [if_neg (by simp [hl]), if_neg (by simp [hl]), if_pos rfl, m4]
      simp
    have hs := step_closed (s := ⟨0, 0, 0, false⟩) (k := ⟨o'.wu, 0, 0, 0, 0, true⟩) ⟨by simp; omega, by simp; omega, rfl, by simp, by simp, rfl, by simp, by simp, by simp⟩ (by simp) (by simp) (by simp) rfl (by simp)
    have e0 : max 0 o'.wu = o'.wu := by omega
    simp only [if_true, Int.zero_add, e0] at hs
    have p2 : addF 0 [o'.wu, 0] = some o'.wu := by rw [addF_two (by omega) (by omega) (by omega) (by omega)]; simp
    have q2 : addF 0 [0, o'.wu] = some o'.wu := by rw [addF_two (by omega) (by omega) (by omega) (by omega)]; simp
    refine ⟨zo, zc, 0, o'.wu, 0, true, c'.en + c'.wu, ho, hc, ?_, g3, g4, by rw [← g12, hl]; rfl, by omega, by omega, ?_⟩
    · unfold stackZ
      rw [runZ, hs]
      dsimp only [Option.bind_some]
      rw [runZ]
      dsimp only [Option.bind_some]
      unfold endZ
      rw [if_neg (by simp), if_pos (by simp)]
      dsimp only
      rw [p2]
      dsimp only [Option.bind_some]
      rw [q2]
      simp; omega
    · intro i hi hq
      exfalso
      rw [hl] at g12
      have g := List.any_eq_false.1 g12.symm
      obtain ⟨x, hx, hx2⟩ := List.any_eq_true.1 hq
      exact g x (List.mem_of_mem_take hx) hx2
  · have ho : stackZ ks true true = some ⟨zo, o'.en, B', 0, o'.wu, 0, false⟩ := by
      unfold stackZ
      rw [g1]
      dsimp only [Option.bind_some]
      unfold endZ
      rw [if_pos (by simp [hl]), m4]
      simp; omega
    have a0 : max 0 B' = B' := by omega
    have a1 : addF 0 [B', 0] = some B' := by rw [addF_two (by omega) (by omega) (by omega) (by omega)]; simp
    have a2 : addF 0 [0, B'] = some B' := by rw [addF_two (by omega) (by omega) (by omega) (by omega)]; simp
    have a3 : addF 0 [B', o'.en] = some (B' + o'.en) := addF_two (by omega) (by omega) (by omega) (by omega)
    have a4 : addF 0 [o'.wu, 0] = some o'.wu := by rw [addF_two (by omega) (by omega) (by omega) (by omega)]; simp
    have a5 : addF 0 [B' + o'.en, o'.wu] = some (B' + o'.en + o'.wu) := addF_two (by omega) (by omega) (by omega) (by omega)
    refine ⟨zo, zc, o'.en, B', o'.wu, false, c'.en + c'.wu, ho, hc, ?_, g3, g4, by rw [← g12, hl]; rfl, by omega, by omega, fun i hi hq => g13 i hi hq⟩
    unfold stackZ
    rw [runZ]
    unfold stepZ plc
    dsimp only
    rw [show max (0 : Int) B' = B' from a0, show min (0 : Int) 0 = 0 by omega, if_neg (by simp), a1]
    dsimp only [Option.bind_some]
    rw [a2]
    dsimp only [Option.bind_some]
    rw [if_neg (by simp), a3]
    dsimp only [Option.map_some, Option.bind_some]
    rw [runZ]
    dsimp only [Option.bind_some]
    unfold endZ
    rw [if_neg (by simp), if_pos (by simp)]
    dsimp only
    rw [a4]
    dsimp only [Option.bind_some]
    rw [a5]
    simp; omega
end Go.Proofs.Ytbjmncgfbdkidaa
