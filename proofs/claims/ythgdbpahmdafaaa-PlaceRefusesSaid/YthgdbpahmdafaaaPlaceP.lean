/- The equation of a box that stands absolutely, in plain numbers. -/
import Derived.Test.YthgdbpahmdafaaaFix
namespace Go.Proofs.Ythgdbpahmdafaaa
open Go.RowKit
set_option linter.unusedSimpArgs false
set_option linter.unusedVariables false

structure PI where
  room : Int
  start : Int
  stop : Int
  size : Int
  aS : Bool
  aE : Bool
  aZ : Bool
  before : Int
  after : Int
  aB : Bool
  aA : Bool
  edges : Int
  static : Int
  least : Int
  most : Int
  low : Int
  high : Int
  bd : Bool

def numF (n : Int) (a : Bool) : Option Int := bif a then some 0 else ofF n
def plainF (x : PI) : Option PI :=
  (numF x.start x.aS).bind fun s => (numF x.stop x.aE).bind fun e => (numF x.size x.aZ).bind fun z => (numF x.before x.aB).bind fun b => (numF x.after x.aA).bind fun a => (ofF x.room).bind fun _ =>
    some { x with start := s, stop := e, size := z, before := b, after := a }
def leftF (x : PI) : Option Int := (addF 0 [x.start, x.before, x.edges, x.size, x.after, x.stop]).bind fun t => subF x.room t
def marginsF (x : PI) : Option PI := (leftF x).bind fun ex =>
  bif x.aB && x.aA then (subF ex (max (ex / 2) 0)).bind fun a => some { x with before := max (ex / 2) 0, after := a }
  else bif x.aB then some { x with before := ex } else bif x.aA then some { x with after := ex } else some x
def fitF (n least most : Int) : Int := max (min n most) least
def s1F (x : PI) : Option PI := bif x.aS && x.aE then (ofF x.static).bind fun s => some { x with start := s } else some x
def s2F (x : PI) : Option PI :=
  bif x.aZ && (x.aS || x.aE) then (leftF x).bind fun l => (ofF (fitF l x.least x.most)).bind fun z => some { x with size := z }
  else bif x.aZ then (leftF x).bind fun l => some { x with size := max l 0 } else some x
def s3F (x : PI) : Option PI := bif x.aS && !x.aE then (leftF x).bind fun l => some { x with start := l } else some x
def solvedF (x : PI) : Option PI := (plainF x).bind fun x => bif !x.aS && !x.aZ && !x.aE then marginsF x else (s1F x).bind fun x => (s2F x).bind s3F
def lastF (y : PI) : Option (Int × Int × Int × Int) := (addF 0 [y.start, y.before]).bind fun t => some (t, y.size, y.before, y.after)
def lowF (x y : PI) : Option PI := if y.size < x.low then solvedF { x with size := x.low, aZ := false } else some y
def solveF (x : PI) : Option (Int × Int × Int × Int) :=
  (solvedF x).bind fun y => if x.bd = true ∧ x.high < y.size then (solvedF { x with size := x.high, aZ := false }).bind fun y => (lowF { x with size := x.high, aZ := false } y).bind lastF else (lowF x y).bind lastF

/-! The document's answer. -/
def bR (x : PI) : Int := bif x.aB then 0 else x.before
def aR (x : PI) : Int := bif x.aA then 0 else x.after
def exR (x : PI) : Int := x.room - x.start - x.stop - x.size - x.edges - bR x - aR x
def mbR (x : PI) : Int := bif x.aB && x.aA then max (exR x / 2) 0 else bif x.aB then exR x else bR x
def maR (x : PI) : Int := bif x.aB && x.aA then exR x - mbR x else bif x.aB then aR x else bif x.aA then exR x else aR x
def otR (x : PI) : Int := x.edges + aR x + bR x
def fitR (l least most : Int) : Int := max (min l most) least
def onceR (x : PI) : Int × Int × Int × Int :=
  bif !x.aS && !x.aZ && !x.aE then (x.start + mbR x, x.size, mbR x, maR x)
  else bif x.aS && x.aE then (x.static + bR x, bif x.aZ then fitR (x.room - x.static - otR x) x.least x.most else x.size, bR x, aR x)
  else bif x.aS then (x.room - x.stop - otR x - (bif x.aZ then fitR (x.room - x.stop - otR x) x.least x.most else x.size) + bR x, bif x.aZ then fitR (x.room - x.stop - otR x) x.least x.most else x.size, bR x, aR x)
  else bif x.aE then (x.start + bR x, bif x.aZ then fitR (x.room - x.start - otR x) x.least x.most else x.size, bR x, aR x)
  else (x.start + bR x, max (x.room - x.start - x.stop - otR x) 0, bR x, aR x)
def lowR (x : PI) (o : Int × Int × Int × Int) : Int × Int × Int × Int := if o.2.1 < x.low then onceR { x with size := x.low, aZ := false } else o
def solveR (x : PI) : Int × Int × Int × Int :=
  if x.bd = true ∧ x.high < (onceR x).2.1 then lowR { x with size := x.high, aZ := false } (onceR { x with size := x.high, aZ := false }) else lowR x (onceR x)

structure Small (x : PI) : Prop where
  room : sm x.room
  start : sm x.start
  stop : sm x.stop
  size : sm x.size
  before : sm x.before
  after : sm x.after
  edges : sm x.edges
  static : sm x.static
  least : sm x.least
  most : sm x.most
  low : sm x.low
  high : sm x.high

theorem left_small {x : PI} (h0 : sm x.room) (h1 : sm x.start) (h2 : sm x.before) (h3 : sm x.edges) (h4 : sm x.size) (h5 : sm x.after) (h6 : sm x.stop) :
    leftF x = some (x.room - (x.start + x.before + x.edges + x.size + x.after + x.stop)) := by
  unfold leftF
  simp only [sm] at *
  rw [addF_cons (by omega) (by omega) (by omega) (by omega), addF_cons (by omega) (by omega) (by omega) (by omega), addF_cons (by omega) (by omega) (by omega) (by omega), addF_cons (by omega) (by omega) (by omega) (by omega), addF_cons (by omega) (by omega) (by omega) (by omega), addF_cons (by omega) (by omega) (by omega) (by omega), addF_nil]
  show subF _ _ = _
  rw [subF_small (by omega) (by omega) (by omega) (by omega) (by omega) (by omega)]
  congr 1; omega
theorem num_small {n : Int} {a : Bool} (h : sm n) : numF n a = some (bif a then 0 else n) := by
  unfold numF
  cases a
  · simp only [cond_false]; unfold sm at h; exact ofF_small (by omega) (by omega)
  · rfl
theorem plain_small {x : PI} (h : Small x) : plainF x = some { x with start := bif x.aS then 0 else x.start, stop := bif x.aE then 0 else x.stop, size := bif x.aZ then 0 else x.size, before := bif x.aB then 0 else x.before, after := bif x.aA then 0 else x.after } := by
  unfold plainF
  rw [num_small h.start, num_small h.stop, num_small h.size, num_small h.before, num_small h.after]
  have := h.room
  unfold sm at this
  rw [ofF_small (by omega) (by omega)]
  rfl
theorem fit_eq (l least most : Int) : fitF l least most = fitR l least most := by
  rfl
theorem bif_small {b : Bool} {n : Int} (h : sm n) : sm (bif b then 0 else n) := by cases b <;> simp [sm] at h ⊢; exact h
/-- Solved once: the answer is the document's. -/
theorem solved_small {x : PI} (h : Small x) : ∃ y, solvedF x = some y ∧ onceR x = (y.start + y.before, y.size, y.before, y.after) ∧ (-8796093022208 ≤ y.start ∧ y.start ≤ 8796093022208) ∧ (-8796093022208 ≤ y.before ∧ y.before ≤ 8796093022208) ∧ (-8796093022208 ≤ y.start + y.before ∧ y.start + y.before ≤ 8796093022208) := by
  unfold solvedF
  rw [plain_small h]
  obtain ⟨h0, h1, h2, h3, h4, h5, h6, h7, h8, h9, h10, h11⟩ := h
  obtain ⟨room, start, stop, size, aS, aE, aZ, before, after, aB, aA, edges, static, least, most, low, high, bd⟩ := x
  simp only at *
  simp only [Option.bind_some]
  have gb : sm (bif aB then 0 else before) := bif_small h4
  have ga : sm (bif aA then 0 else after) := bif_small h5
  have hz : sm 0 := by unfold sm; omega
  cases aS <;> cases aE <;> cases aZ <;> simp only [Bool.not_true, Bool.not_false, Bool.and_true, Bool.and_false, Bool.true_and, Bool.false_and, Bool.or_true, Bool.or_false, cond_true, cond_false, onceR, s1F, s2F, s3F, Option.bind_some]
  · -- all told
    unfold marginsF
    rw [left_small h0 h1 gb h6 h3 ga h2]
    simp only [Option.bind_some, mbR, maR, exR, bR, aR]
    simp only [sm] at *
    cases aB <;> cases aA <;> simp only [cond_true, cond_false, Bool.and_true, Bool.and_false, Bool.true_and, Bool.false_and, Bool.and_self] at *
    · exact ⟨_, rfl, rfl, by dsimp only; omega, by dsimp only; omega, by dsimp only; omega⟩
    · exact ⟨_, rfl, by simp only [Prod.mk.injEq, true_and, and_true]; omega, by simp only; omega, by simp only; omega, by simp only; omega⟩
    · exact ⟨_, rfl, by simp only [Prod.mk.injEq, true_and, and_true]; omega, by simp only; omega, by simp only; omega, by simp only; omega⟩
    · rw [subF_small (by omega) (by omega) (by omega) (by omega) (by omega) (by omega)]
      exact ⟨_, rfl, by simp only [Prod.mk.injEq, true_and, and_true]; omega, by simp only; omega, by simp only; omega, by simp only; omega⟩
  · rw [left_small h0 h1 gb h6 hz ga h2]
    simp only [Option.bind_some, otR, bR, aR]
    simp only [sm] at *
    exact ⟨_, rfl, by simp only [Prod.mk.injEq, true_and, and_true]; omega, by simp only; omega, by simp only; omega, by simp only; omega⟩
  · simp only [otR, bR, aR]
    simp only [sm] at *
    exact ⟨_, rfl, rfl, by simp only; omega, by simp only; omega, by simp only; omega⟩
  · rw [left_small h0 h1 gb h6 hz ga hz]
    simp only [Option.bind_some, otR, bR, aR]
    rw [fit_eq]
    have e : room - (start + (bif aB then 0 else before) + edges + 0 + (bif aA then 0 else after) + 0) = room - start - (edges + (bif aA then 0 else after) + (bif aB then 0 else before)) := by omega
    rw [e]
    have hf : sm (fitR (room - start - (edges + (bif aA then 0 else after) + (bif aB then 0 else before))) least most) := by
      unfold fitR; simp only [sm] at *; omega
    simp only [sm] at *
    rw [ofF_small (by omega) (by omega)]
    exact ⟨_, rfl, rfl, by simp only; omega, by simp only; omega, by simp only; omega⟩
  · rw [left_small h0 hz gb h6 h3 ga h2]
    simp only [Option.bind_some, otR, bR, aR]
    simp only [sm] at *
    exact ⟨_, rfl, by simp only [Prod.mk.injEq, true_and, and_true]; omega, by simp only; omega, by simp only; omega, by simp only; omega⟩
  · rw [left_small h0 hz gb h6 hz ga h2]
    simp only [Option.bind_some, otR, bR, aR]
    rw [fit_eq]
    have e : room - (0 + (bif aB then 0 else before) + edges + 0 + (bif aA then 0 else after) + stop) = room - stop - (edges + (bif aA then 0 else after) + (bif aB then 0 else before)) := by omega
    rw [e]
    have hf : sm (fitR (room - stop - (edges + (bif aA then 0 else after) + (bif aB then 0 else before))) least most) := by
      unfold fitR; simp only [sm] at *; omega
    rw [ofF_small (by unfold sm at hf; omega) (by unfold sm at hf; omega)]
    simp only [Option.bind_some, s3F, Bool.not_false, Bool.and_self, cond_true]
    rw [left_small h0 hz gb h6 hf ga h2]
    simp only [sm] at *
    exact ⟨_, rfl, by simp only [Prod.mk.injEq, true_and, and_true]; omega, by simp only; omega, by simp only; omega, by simp only; omega⟩
  · have h7' := h7
    simp only [sm] at h7'
    rw [ofF_small (by omega) (by omega)]
    simp only [otR, bR, aR]
    simp only [sm] at *
    exact ⟨_, rfl, rfl, by simp only; omega, by simp only; omega, by simp only; omega⟩
  · have h7' := h7
    simp only [sm] at h7'
    rw [ofF_small (by omega) (by omega)]
    simp only [Option.bind_some]
    rw [left_small h0 h7 gb h6 hz ga hz]
    simp only [Option.bind_some, otR, bR, aR]
    rw [fit_eq]
    have e : room - (static + (bif aB then 0 else before) + edges + 0 + (bif aA then 0 else after) + 0) = room - static - (edges + (bif aA then 0 else after) + (bif aB then 0 else before)) := by omega
    rw [e]
    have hf : sm (fitR (room - static - (edges + (bif aA then 0 else after) + (bif aB then 0 else before))) least most) := by
      unfold fitR; simp only [sm] at *; omega
    simp only [sm] at *
    rw [ofF_small (by omega) (by omega)]
    exact ⟨_, rfl, rfl, by simp only; omega, by simp only; omega, by simp only; omega⟩

theorem last_small {y : PI} {o : Int × Int × Int × Int} (e : o = (y.start + y.before, y.size, y.before, y.after)) (h1 : -8796093022208 ≤ y.start ∧ y.start ≤ 8796093022208) (h2 : -8796093022208 ≤ y.before ∧ y.before ≤ 8796093022208) (h3 : -8796093022208 ≤ y.start + y.before ∧ y.start + y.before ≤ 8796093022208) : lastF y = some o := by
  unfold lastF
  rw [addF_cons (by omega) (by omega) (by omega) (by omega), addF_cons (by omega) (by omega) (by omega) (by omega), addF_nil, e]
  simp
theorem low_small {x : PI} (h : Small x) {y : PI} {o : Int × Int × Int × Int} (e : o = (y.start + y.before, y.size, y.before, y.after)) (h1 : -8796093022208 ≤ y.start ∧ y.start ≤ 8796093022208) (h2 : -8796093022208 ≤ y.before ∧ y.before ≤ 8796093022208) (h3 : -8796093022208 ≤ y.start + y.before ∧ y.start + y.before ≤ 8796093022208) :
    (lowF x y).bind lastF = some (lowR x o) := by
  unfold lowF lowR
  have es : o.2.1 = y.size := by rw [e]
  rw [es]
  by_cases hl : y.size < x.low
  · rw [if_pos hl, if_pos hl]
    obtain ⟨z, hz, ez, z1, z2, z3⟩ := solved_small (x := { x with size := x.low, aZ := false }) ⟨h.room, h.start, h.stop, h.low, h.before, h.after, h.edges, h.static, h.least, h.most, h.low, h.high⟩
    rw [hz]
    exact last_small ez z1 z2 z3
  · rw [if_neg hl, if_neg hl]
    exact last_small e h1 h2 h3
/-- THE LAW of PlaceSolves: where numbers have room. -/
theorem solve_small {x : PI} (h : Small x) : solveF x = some (solveR x) := by
  unfold solveF solveR
  obtain ⟨y, hy, ey, y1, y2, y3⟩ := solved_small h
  rw [hy, ey]
  simp only [Option.bind_some]
  by_cases hc : x.bd = true ∧ x.high < y.size
  · rw [if_pos hc, if_pos hc]
    have h' : Small { x with size := x.high, aZ := false } := ⟨h.room, h.start, h.stop, h.high, h.before, h.after, h.edges, h.static, h.least, h.most, h.low, h.high⟩
    obtain ⟨z, hz, ez, z1, z2, z3⟩ := solved_small h'
    rw [hz]
    simp only [Option.bind_some]
    exact low_small h' ez z1 z2 z3
  · rw [if_neg hc, if_neg hc]
    exact low_small h rfl y1 y2 y3

/-! ### PlaceHolds -/
theorem once_z {x : PI} (h : x.aZ = false) : (onceR x).2.1 = x.size := by
  unfold onceR
  rw [h]
  cases x.aS <;> cases x.aE <;> simp
theorem once_b {x : PI} (h : x.aB = false) : (onceR x).2.2.1 = x.before := by
  unfold onceR mbR bR
  rw [h]
  cases x.aS <;> cases x.aE <;> cases x.aZ <;> simp
theorem once_a {x : PI} (h : x.aA = false) : (onceR x).2.2.2 = x.after := by
  unfold onceR maR aR
  rw [h]
  cases x.aS <;> cases x.aE <;> cases x.aZ <;> cases x.aB <;> simp
/-- Where it stands. -/
def Stands (x : PI) (o : Int × Int × Int × Int) : Prop :=
  (x.aS = false → o.1 = x.start + o.2.2.1) ∧ (x.aS = true → x.aE = false → o.1 + x.edges + o.2.1 + o.2.2.2 = x.room - x.stop) ∧ (x.aS = true → x.aE = true → o.1 = x.static + o.2.2.1)
theorem once_stands (x : PI) : Stands x (onceR x) := by
  unfold Stands onceR
  refine ⟨fun h => ?_, fun h k => ?_, fun h k => ?_⟩
  · rw [h]; cases x.aE <;> cases x.aZ <;> simp
  · rw [h, k]; simp [otR]; omega
  · rw [h, k]; simp
theorem stands_size {x : PI} {n : Int} {b : Bool} {o : Int × Int × Int × Int} (h : Stands { x with size := n, aZ := b } o) : Stands x o := h
theorem solve_cases (x : PI) : ∃ z : PI, (z = x ∨ z = { x with size := x.high, aZ := false } ∨ z = { x with size := x.low, aZ := false }) ∧ solveR x = onceR z := by
  unfold solveR lowR
  split
  · split
    · exact ⟨_, .inr (.inr rfl), rfl⟩
    · exact ⟨_, .inr (.inl rfl), rfl⟩
  · split
    · exact ⟨_, .inr (.inr rfl), rfl⟩
    · exact ⟨_, .inl rfl, rfl⟩
theorem solve_low (x : PI) : x.low ≤ (solveR x).2.1 := by
  unfold solveR lowR
  split
  · split
    · rw [once_z rfl]; exact Int.le_refl _
    · rename_i h; exact Int.not_lt.1 h
  · split
    · rw [once_z rfl]; exact Int.le_refl _
    · rename_i h; exact Int.not_lt.1 h
theorem solve_high {x : PI} (h : x.bd = true) : (solveR x).2.1 ≤ max x.low x.high := by
  unfold solveR lowR
  split
  · split
    · rw [once_z rfl]; exact Int.le_max_left _ _
    · rw [once_z rfl]; exact Int.le_max_right _ _
  · rename_i hn
    split
    · rw [once_z rfl]; exact Int.le_max_left _ _
    · have : ¬ x.high < (onceR x).2.1 := fun hh => hn ⟨h, hh⟩
      omega
theorem solve_size {x : PI} (h : x.aZ = false) (h1 : x.low ≤ x.size) (h2 : x.bd = false ∨ x.size ≤ x.high) : (solveR x).2.1 = x.size := by
  have e := once_z h
  unfold solveR lowR
  rw [e]
  rw [if_neg (by rintro ⟨h3, h4⟩; rcases h2 with h2 | h2; · rw [h2] at h3; cases h3
                 · omega), if_neg (by omega), e]
/-- THE LAW of PlaceHolds. -/
theorem place_holds (x : PI) : x.low ≤ (solveR x).2.1 ∧ (x.bd = true → (solveR x).2.1 ≤ max x.low x.high) ∧ (x.aB = false → (solveR x).2.2.1 = x.before) ∧ (x.aA = false → (solveR x).2.2.2 = x.after) ∧
    (x.aZ = false → x.low ≤ x.size → (x.bd = false ∨ x.size ≤ x.high) → (solveR x).2.1 = x.size) ∧ Stands x (solveR x) := by
  refine ⟨solve_low x, solve_high, fun h => ?_, fun h => ?_, solve_size, ?_⟩
  · obtain ⟨z, hz, e⟩ := solve_cases x
    rw [e]
    rcases hz with rfl | rfl | rfl <;> exact once_b h
  · obtain ⟨z, hz, e⟩ := solve_cases x
    rw [e]
    rcases hz with rfl | rfl | rfl <;> exact once_a h
  · obtain ⟨z, hz, e⟩ := solve_cases x
    rw [e]
    rcases hz with rfl | rfl | rfl
    · exact once_stands _
    · exact once_stands { x with size := x.high, aZ := false }
    · exact once_stands { x with size := x.low, aZ := false }

/-! ### PlaceRefuses -/
def farP (n : Int) (a : Bool) : Bool := !a && !decide (inL n)
theorem num_far {n : Int} {a : Bool} (h : farP n a = true) : numF n a = none := by
  unfold farP at h
  simp only [Bool.and_eq_true, Bool.not_eq_true', decide_eq_false_iff_not] at h
  unfold numF ofF
  rw [h.1, cond_false, if_neg h.2]
theorem solve_far {x : PI} (h : farP x.room false = true ∨ farP x.start x.aS = true ∨ farP x.stop x.aE = true ∨ farP x.size x.aZ = true ∨ farP x.before x.aB = true ∨ farP x.after x.aA = true) : solveF x = none := by
  have : plainF x = none := by
    unfold plainF
    rcases h with h | h | h | h | h | h
    · have e : ofF x.room = none := num_far h
      rw [e]
      cases numF x.start x.aS <;> cases numF x.stop x.aE <;> cases numF x.size x.aZ <;> cases numF x.before x.aB <;> cases numF x.after x.aA <;> rfl
    · rw [num_far h]; rfl
    · rw [num_far h]; cases numF x.start x.aS <;> rfl
    · rw [num_far h]; cases numF x.start x.aS <;> cases numF x.stop x.aE <;> rfl
    · rw [num_far h]; cases numF x.start x.aS <;> cases numF x.stop x.aE <;> cases numF x.size x.aZ <;> rfl
    · rw [num_far h]; cases numF x.start x.aS <;> cases numF x.stop x.aE <;> cases numF x.size x.aZ <;> cases numF x.before x.aB <;> rfl
  unfold solveF solvedF
  rw [this]; rfl
/-- What is auto doesn't count. -/
def sameBut (x y : PI) : Prop := x.room = y.room ∧ (bif x.aS then 0 else x.start) = (bif y.aS then 0 else y.start) ∧ (bif x.aE then 0 else x.stop) = (bif y.aE then 0 else y.stop) ∧ (bif x.aZ then 0 else x.size) = (bif y.aZ then 0 else y.size) ∧ (bif x.aB then 0 else x.before) = (bif y.aB then 0 else y.before) ∧ (bif x.aA then 0 else x.after) = (bif y.aA then 0 else y.after) ∧
  x.aS = y.aS ∧ x.aE = y.aE ∧ x.aZ = y.aZ ∧ x.aB = y.aB ∧ x.aA = y.aA ∧ x.edges = y.edges ∧ x.static = y.static ∧ x.least = y.least ∧ x.most = y.most ∧ x.low = y.low ∧ x.high = y.high ∧ x.bd = y.bd
theorem num_of {n m : Int} {a : Bool} (h : (bif a then 0 else n) = (bif a then 0 else m)) : numF n a = numF m a := by
  unfold numF
  cases a
  · simp only [cond_false] at h ⊢; rw [h]
  · rfl
theorem plain_same {x y : PI} (h : sameBut x y) : plainF x = plainF y := by
  obtain ⟨room, start, stop, size, aS, aE, aZ, before, after, aB, aA, edges, static, least, most, low, high, bd⟩ := x
  obtain ⟨room', start', stop', size', aS', aE', aZ', before', after', aB', aA', edges', static', least', most', low', high', bd'⟩ := y
  obtain ⟨h0, h1, h2, h3, h4, h5, rfl, rfl, rfl, rfl, rfl, rfl, rfl, rfl, rfl, rfl, rfl, rfl⟩ := h
  dsimp only at *
  subst h0
  unfold plainF
  dsimp only
  rw [num_of h1, num_of h2, num_of h3, num_of h4, num_of h5]
theorem same_size {x y : PI} (h : sameBut x y) (n : Int) : sameBut { x with size := n, aZ := false } { y with size := n, aZ := false } := by
  obtain ⟨h0, h1, h2, h3, h4, h5, h6, h7, h8, h9, h10, h11, h12, h13, h14, h15, h16, h17⟩ := h
  exact ⟨h0, h1, h2, rfl, h4, h5, h6, h7, rfl, h9, h10, h11, h12, h13, h14, h15, h16, h17⟩
theorem solve_same {x y : PI} (h : sameBut x y) : solveF x = solveF y := by
  have hs : ∀ {x y : PI}, sameBut x y → solvedF x = solvedF y := fun h => by unfold solvedF; rw [plain_same h]
  have e1 := hs h
  have e2 := fun n => hs (same_size h n)
  have e3 : x.low = y.low := h.2.2.2.2.2.2.2.2.2.2.2.2.2.2.2.1
  have e4 : x.high = y.high := h.2.2.2.2.2.2.2.2.2.2.2.2.2.2.2.2.1
  have e5 : x.bd = y.bd := h.2.2.2.2.2.2.2.2.2.2.2.2.2.2.2.2.2
  obtain ⟨room, start, stop, size, aS, aE, aZ, before, after, aB, aA, edges, static, least, most, low, high, bd⟩ := x
  obtain ⟨room', start', stop', size', aS', aE', aZ', before', after', aB', aA', edges', static', least', most', low', high', bd'⟩ := y
  dsimp only at e2 e3 e4 e5
  subst e3 e4 e5
  unfold solveF lowF
  dsimp only
  rw [e1]
  simp only [e2]
end Go.Proofs.Ythgdbpahmdafaaa
