/- A map of nodes that holds a tree, told by its rows; a node taken away with all below it, put in elsewhere. -/
import Derived.Test.YtjcbphhemmdnjaaInts
import Derived.Test.YtjcbphhemmdnjaaTreeP
namespace Go.Proofs.Ytjcbphhemmdnjaa
open Go Go.RowKit
set_option linter.unusedSimpArgs false
set_option linter.unusedVariables false

/-- An entry: its parent, its kids; F: where the kids may lie. -/
def NodeOk (w : World) (F : Nat → Prop) (v : Value) (par : Int) (ks : List Int) : Prop := ∃ a c, v = .agg #[.int .i64 par, .slice a ks.length c] ∧ ks.length ≤ c ∧ IntsAt w a ks ∧ (0 < ks.length → ∀ b off, a = some ⟨b, off, none⟩ → F b)
theorem NodeOk.to {w w' : World} {F : Nat → Prop} {v : Value} {par : Int} {ks : List Int} (h : NodeOk w F v par ks) (hs : w.heap.size ≤ w'.heap.size) (hb : ∀ b, b < w.heap.size → F b → (∃ o, (w.cell? ⟨b, o, none⟩).isSome = true) → w'.heap[b]? = w.heap[b]?) : NodeOk w' F v par ks := by
  obtain ⟨a, c, h1, h2, h3, h4⟩ := h
  refine ⟨a, c, h1, h2, fun h0 => ?_, h4⟩
  obtain ⟨b, off, e, hl, hc⟩ := h3 h0
  refine ⟨b, off, e, Nat.lt_of_lt_of_le hl hs, fun i hi => ?_⟩
  rw [← hc i hi]
  exact World.cell?_of_block (w := w) (hb b hl (h4 h0 b off e) ⟨off + i, by rw [hc i hi]; rfl⟩)
theorem NodeOk.more {w : World} {F F' : Nat → Prop} {v : Value} {par : Int} {ks : List Int} (h : NodeOk w F v par ks) (hF : ∀ b, F b → F' b) : NodeOk w F' v par ks := by
  obtain ⟨a, c, h1, h2, h3, h4⟩ := h
  exact ⟨a, c, h1, h2, h3, fun h0 b off e => hF b (h4 h0 b off e)⟩
structure Forest (w : World) (F : Nat → Prop) (L : List (Int × Value)) (R S : Rows) : Prop where
  main : ∀ A n d C, R = A ++ (n, d) :: C → ∃ v, mlook L n = some v ∧ NodeOk w F v (parR d A.reverse) (kidsR d C)
  det : ∀ A n d C, S = A ++ (n, d) :: C → ∃ v par, mlook L n = some v ∧ NodeOk w F v par (kidsR d C) ∧ (A ≠ [] → par = parR d A.reverse)
  miss : ∀ k, k ∉ nums R → k ∉ nums S → mlook L k = none
  len : L.length = R.length + S.length
theorem Forest.to {w w' : World} {F : Nat → Prop} {L : List (Int × Value)} {R S : Rows} (h : Forest w F L R S) (hs : w.heap.size ≤ w'.heap.size) (hb : ∀ b, b < w.heap.size → F b → (∃ o, (w.cell? ⟨b, o, none⟩).isSome = true) → w'.heap[b]? = w.heap[b]?) : Forest w' F L R S := by
  refine ⟨fun A n d C e => ?_, fun A n d C e => ?_, h.miss, h.len⟩
  · obtain ⟨v, h1, h2⟩ := h.main A n d C e
    exact ⟨v, h1, h2.to hs hb⟩
  · obtain ⟨v, par, h1, h2, h3⟩ := h.det A n d C e
    exact ⟨v, par, h1, h2.to hs hb, h3⟩
theorem Forest.below {w w' : World} {F : Nat → Prop} {L : List (Int × Value)} {R S : Rows} (h : Forest w F L R S) (hb : Below w.heap.size w w') : Forest w' F L R S := h.to hb.size (fun b hl _ _ => hb.block b hl)
theorem Forest.more {w : World} {F F' : Nat → Prop} {L : List (Int × Value)} {R S : Rows} (h : Forest w F L R S) (hF : ∀ b, F b → F' b) : Forest w F' L R S := by
  refine ⟨fun A n d C e => ?_, fun A n d C e => ?_, h.miss, h.len⟩
  · obtain ⟨v, h1, h2⟩ := h.main A n d C e
    exact ⟨v, h1, h2.more hF⟩
  · obtain ⟨v, par, h1, h2, h3⟩ := h.det A n d C e
    exact ⟨v, par, h1, h2.more hF, h3⟩
theorem notIn_of_nodup {X Y : Rows} {m : Int × Int} (h : (nums (X ++ m :: Y)).Nodup) : (∀ x ∈ X, x.1 ≠ m.1) ∧ ∀ x ∈ Y, x.1 ≠ m.1 := by
  refine ⟨fun x hx => nums_apart h hx (.head _), fun x hx => ?_⟩
  rw [nums_append] at h
  have h2 := (List.nodup_append.1 h).2.1
  exact fun e => (List.nodup_cons.1 h2).1 (by have := mem_nums hx; rw [e] at this; exact this)
/-- A subtree put in: what the two stores must be. -/
theorem Forest.put {w : World} {F : Nat → Prop} {L L1 : List (Int × Value)} {A S B A1 A2 S' : Rows} {p dp n : Int} {vp vn : Value} (h : InsOk A S B A1 A2 S' p dp n) (hnd : (nums (A ++ S ++ B)).Nodup)
    (hm : ∀ X m d Y, A ++ B = X ++ (m, d) :: Y → ∃ v, mlook L m = some v ∧ NodeOk w F v (parR d X.reverse) (kidsR d Y))
    (hd : ∀ X m d Y, X ≠ [] → S = X ++ (m, d) :: Y → ∃ v, mlook L m = some v ∧ NodeOk w F v (parR d X.reverse) (kidsR d Y))
    (hno : ∀ k, k ∉ nums (A ++ B) → k ∉ nums S → mlook L k = none)
    (hvp : NodeOk w F vp (parR dp A1.reverse) (lvl (dp + 1) A2 ++ n :: kidsR dp B)) (hvn : NodeOk w F vn p (kidsR (dp + 1) S'))
    (hL : ∀ k, mlook L1 k = if k = n then some vn else if k = p then some vp else mlook L k) (hlen : L1.length = (A ++ S ++ B).length) : Forest w F L1 (A ++ S ++ B) [] := by
  have hpA : (p, dp) ∈ A := by rw [h.ha]; simp
  have hnS : (n, dp + 1) ∈ S := by rw [h.hs]; simp
  have hAS : (nums (A ++ S)).Nodup := by rw [nums_append] at hnd; exact (List.nodup_append.1 hnd).1
  have hAB : ∀ x ∈ A, ∀ y ∈ B, x.1 ≠ y.1 := fun x hx y hy => nums_apart hnd (List.mem_append_left _ hx) hy
  have hSB : ∀ x ∈ S, ∀ y ∈ B, x.1 ≠ y.1 := fun x hx y hy => nums_apart hnd (List.mem_append_right _ hx) hy
  have hSA : ∀ x ∈ A, ∀ y ∈ S, x.1 ≠ y.1 := fun x hx y hy => nums_apart hAS hx hy
  have hndA : (nums A).Nodup := by rw [nums_append] at hAS; exact (List.nodup_append.1 hAS).1
  have hndS : (nums S).Nodup := by rw [nums_append] at hAS; exact (List.nodup_append.1 hAS).2.1
  refine ⟨fun X m d Y e => ?_, fun X m d Y e => by simp at e, fun k hk _ => ?_, by rw [hlen]; rfl⟩
  · rcases split3 e with ⟨Y0, h1, h2⟩ | ⟨X0, Y0, h1, h2, h3⟩ | ⟨X0, h1, h2⟩
    · have hmA : (m, d) ∈ A := by rw [h1]; simp
      have hmn : m ≠ n := hSA _ hmA _ hnS
      by_cases hp : X = A1 ∧ (m, d) = (p, dp) ∧ Y0 = A2
      · obtain ⟨e1, e2, e3⟩ := hp
        cases e2
        refine ⟨vp, by rw [hL, if_neg hmn, if_pos rfl], ?_⟩
        rw [h2, e3, e1, h.kidsP.1]; exact hvp
      · have hmp : m ≠ p := fun q => by
          subst q
          have h1' := h1
          rw [h.ha] at h1'
          rcases split_p h1' with ⟨Y1, k1, k2⟩ | k1 | ⟨X1, k1, k2⟩
          · rw [h1] at hndA
            exact (notIn_of_nodup hndA).2 (m, dp) (by rw [k2]; simp) rfl
          · exact hp k1
          · rw [h1] at hndA
            exact (notIn_of_nodup hndA).1 (m, dp) (by rw [k2]; simp) rfl
        obtain ⟨v, k1, k2⟩ := hm X m d (Y0 ++ B) (by rw [h1, List.append_assoc]; rfl)
        refine ⟨v, by rw [hL, if_neg hmn, if_neg hmp, k1], ?_⟩
        rw [h2, h.kidsA h1 hp]; exact k2
    · have hmS : (m, d) ∈ S := by rw [h1]; simp
      have hmp : m ≠ p := fun q => hSA _ hpA _ hmS q.symm
      obtain ⟨q1, q2⟩ := h.parS h1
      rw [h2, h3, h.kidsS h1]
      by_cases hX : X0 = []
      · obtain ⟨e1, e2, e3⟩ := q1 hX
        cases e1
        refine ⟨vn, by rw [hL, if_pos rfl], ?_⟩
        rw [e3, e2]; exact hvn
      · obtain ⟨e1, e2⟩ := q2 hX
        have hmn : m ≠ n := fun q => by
          rw [h.hs] at hndS
          exact (notIn_of_nodup (X := []) hndS).2 _ e2 q
        obtain ⟨v, k1, k2⟩ := hd X0 m d Y0 hX h1
        refine ⟨v, by rw [hL, if_neg hmn, if_neg hmp, k1], ?_⟩
        rw [e1]; exact k2
    · have hmB : (m, d) ∈ B := by rw [h1]; simp
      have hmn : m ≠ n := fun q => hSB _ hnS _ hmB q.symm
      have hmp : m ≠ p := fun q => hAB _ hpA _ hmB q.symm
      obtain ⟨v, k1, k2⟩ := hm (A ++ X0) m d Y (by rw [h1, List.append_assoc])
      refine ⟨v, by rw [hL, if_neg hmn, if_neg hmp, k1], ?_⟩
      rw [h2, h.parB h1]; exact k2
  · rw [nums_append, nums_append, List.mem_append, List.mem_append, not_or, not_or] at hk
    have hkn : k ≠ n := fun q => hk.1.2 (by rw [q]; exact mem_nums hnS)
    have hkp : k ≠ p := fun q => hk.1.1 (by rw [q]; exact mem_nums hpA)
    rw [hL, if_neg hkn, if_neg hkp]
    exact hno k (by rw [nums_append, List.mem_append, not_or]; exact ⟨hk.1.1, hk.2⟩) hk.1.2
/-- A subtree taken away from its parent's kids. -/
theorem Forest.take {w : World} {F : Nat → Prop} {L L1 : List (Int × Value)} {A S B A1 A2 S' : Rows} {p dp n : Int} {vp : Value} (h : InsOk A S B A1 A2 S' p dp n) (hnd : (nums (A ++ S ++ B)).Nodup)
    (hf : Forest w F L (A ++ S ++ B) []) (hvp : NodeOk w F vp (parR dp A1.reverse) (lvl (dp + 1) A2 ++ kidsR dp B))
    (hL : ∀ k, mlook L1 k = if k = p then some vp else mlook L k) (hlen : L1.length = L.length) : Forest w F L1 (A ++ B) S := by
  have hpA : (p, dp) ∈ A := by rw [h.ha]; simp
  have hAS : (nums (A ++ S)).Nodup := by rw [nums_append] at hnd; exact (List.nodup_append.1 hnd).1
  have hAB : ∀ x ∈ A, ∀ y ∈ B, x.1 ≠ y.1 := fun x hx y hy => nums_apart hnd (List.mem_append_left _ hx) hy
  have hSA : ∀ x ∈ A, ∀ y ∈ S, x.1 ≠ y.1 := fun x hx y hy => nums_apart hAS hx hy
  have hndA : (nums A).Nodup := by rw [nums_append] at hAS; exact (List.nodup_append.1 hAS).1
  refine ⟨fun X m d Y e => ?_, fun X m d Y e => ?_, fun k hk hs => ?_, ?_⟩
  · rcases split2 e with ⟨Y0, h1, h2⟩ | ⟨X0, h1, h2⟩
    · by_cases hp : X = A1 ∧ (m, d) = (p, dp) ∧ Y0 = A2
      · obtain ⟨e1, e2, e3⟩ := hp
        cases e2
        refine ⟨vp, by rw [hL, if_pos rfl], ?_⟩
        rw [h2, e3, e1, h.kidsP.2]; exact hvp
      · have hmp : m ≠ p := fun q => by
          subst q
          have h1' := h1
          rw [h.ha] at h1'
          rcases split_p h1' with ⟨Y1, k1, k2⟩ | k1 | ⟨X1, k1, k2⟩
          · rw [h1] at hndA
            exact (notIn_of_nodup hndA).2 (m, dp) (by rw [k2]; simp) rfl
          · exact hp k1
          · rw [h1] at hndA
            exact (notIn_of_nodup hndA).1 (m, dp) (by rw [k2]; simp) rfl
        obtain ⟨v, k1, k2⟩ := hf.main X m d (Y0 ++ S ++ B) (by rw [h1]; simp)
        refine ⟨v, by rw [hL, if_neg hmp, k1], ?_⟩
        rw [h2, ← h.kidsA h1 hp]; exact k2
    · have hmB : (m, d) ∈ B := by rw [h1]; simp
      have hmp : m ≠ p := fun q => hAB _ hpA _ hmB q.symm
      obtain ⟨v, k1, k2⟩ := hf.main (A ++ S ++ X0) m d Y (by rw [h1]; simp)
      refine ⟨v, by rw [hL, if_neg hmp, k1], ?_⟩
      rw [h2, ← h.parB h1]; exact k2
  · have hmS : (m, d) ∈ S := by rw [e]; simp
    have hmp : m ≠ p := fun q => hSA _ hpA _ hmS q.symm
    obtain ⟨v, k1, k2⟩ := hf.main (A ++ X) m d (Y ++ B) (by rw [e]; simp)
    refine ⟨v, _, by rw [hL, if_neg hmp, k1], by rw [← h.kidsS e]; exact k2, fun hX => ((h.parS e).2 hX).1⟩
  · have hkp : k ≠ p := fun q => hk (by rw [q]; exact mem_nums (List.mem_append_left _ hpA))
    rw [hL, if_neg hkp]
    refine hf.miss k ?_ (by simp [nums])
    rw [nums_append, List.mem_append, not_or] at hk
    rw [nums_append, nums_append, List.mem_append, List.mem_append, not_or, not_or]
    exact ⟨⟨hk.1, hs⟩, hk.2⟩
  · rw [hlen, hf.len]; simp; omega
/-- All of a subtree struck out. -/
theorem Forest.drop {w : World} {F : Nat → Prop} {L L1 : List (Int × Value)} {R S : Rows} (hf : Forest w F L R S) (hap : ∀ k, k ∈ nums R → k ∉ nums S) (hL : ∀ k, mlook L1 k = if k ∈ nums S then none else mlook L k) (hlen : L1.length + S.length = L.length) : Forest w F L1 R [] := by
  refine ⟨fun A n d C e => ?_, fun A n d C e => by simp at e, fun k hk _ => ?_, ?_⟩
  · obtain ⟨v, h1, h2⟩ := hf.main A n d C e
    have hn : n ∈ nums R := by rw [e]; simp [nums]
    exact ⟨v, by rw [hL, if_neg (hap n hn), h1], h2⟩
  · rw [hL]
    by_cases c : k ∈ nums S
    · rw [if_pos c]
    · rw [if_neg c]; exact hf.miss k hk c
  · have := hf.len; simp; omega
end Go.Proofs.Ytjcbphhemmdnjaa
