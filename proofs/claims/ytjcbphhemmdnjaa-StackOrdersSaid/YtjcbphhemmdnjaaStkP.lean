/- law26 (stack), plain: what is painted over what. -/
import Derived.Test.YtjcbphhemmdnjaaPt
namespace Go.Proofs.Ytjcbphhemmdnjaa
set_option linter.unusedSimpArgs false
set_option linter.unusedVariables false
theorem fm_congr {α β : Type} {f g : α → List β} : ∀ {l : List α}, (∀ a ∈ l, f a = g a) → l.flatMap f = l.flatMap g
  | [], _ => rfl
  | a :: l, h => by rw [List.flatMap_cons, List.flatMap_cons, h a (by simp), fm_congr (fun b hb => h b (by simp [hb]))]
theorem fm_perm {α β : Type} {f g : α → List β} : ∀ {l : List α}, (∀ a ∈ l, (f a).Perm (g a)) → (l.flatMap f).Perm (l.flatMap g)
  | [], _ => .nil
  | a :: l, h => by rw [List.flatMap_cons, List.flatMap_cons]; exact (h a (by simp)).append (fm_perm (fun b hb => h b (by simp [hb])))
theorem fm_sub {α β : Type} {f g : α → List β} : ∀ {l : List α}, (∀ a ∈ l, (f a).Sublist (g a)) → (l.flatMap f).Sublist (l.flatMap g)
  | [], _ => .slnil
  | a :: l, h => by rw [List.flatMap_cons, List.flatMap_cons]; exact (h a (by simp)).append (fm_sub (fun b hb => h b (by simp [hb])))
/-- From the last node down. -/
theorem desc {N : Nat} {P : Nat → Prop} (h : ∀ n, (∀ k, n < k → k < N → P k) → P n) (n : Nat) : P n := by
  generalize hm : N - n = m
  induction m using Nat.strongRecOn generalizing n with
  | _ m ih => exact h n (fun k h1 h2 => ih (N - k) (by omega) k rfl)
section
variable (pa : Nat → Nat) (N : Nat) (ctx : Nat → Bool) (z : Nat → Int)
def kidsN (n : Nat) : List Nat := (List.range N).filter fun j => decide (0 < j ∧ pa j = n)
def preF : Nat → Nat → List Nat
  | 0, n => [n]
  | f + 1, n => n :: (kidsN pa N n).flatMap (preF f)
/-- A node and all below it, in the tree's order. -/
def preN (n : Nat) : List Nat := preF pa N (N - n) n
def ofnF : Nat → Nat → List Nat
  | 0, _ => []
  | f + 1, n => (kidsN pa N n).flatMap fun k => k :: if ctx k then [] else ofnF f k
/-- What is below a node, as far as the next contexts. -/
def ofN (n : Nat) : List Nat := ofnF pa N ctx (N - n) n
/-- The place in the tree's order. -/
def atN (k : Nat) : Nat := (preN pa N 0).idxOf k
def clsN (k : Nat) : Int := if ctx k = false then 1 else if z k < 0 then 0 else 2
def zN (k : Nat) : Int := if ctx k = false then 0 else z k
def ltK (a b : Nat) : Prop := clsN ctx z a < clsN ctx z b ∨ clsN ctx z a = clsN ctx z b ∧ (zN ctx z a < zN ctx z b ∨ zN ctx z a = zN ctx z b ∧ atN pa N a < atN pa N b)
instance (a b : Nat) : Decidable (ltK pa N ctx z a b) := by unfold ltK; infer_instance
def srtK (l : List Nat) : List Nat := l.mergeSort (fun a b => decide (¬ ltK pa N ctx z b a))
def paintF : Nat → Nat → List Nat
  | 0, n => [n]
  | f + 1, n => n :: (srtK pa N ctx z (ofN pa N ctx n)).flatMap fun k => if ctx k then paintF f k else [k]
/-- A context, painted. -/
def paintN (n : Nat) : List Nat := paintF pa N ctx z (N - n) n
def abvF : Nat → Nat → List Nat
  | 0, _ => [0]
  | f + 1, n => if n = 0 then [0] else abvF f (pa n) ++ if ctx n then [n] else []
/-- The contexts from the root down to a node. -/
def abvN (n : Nat) : List Nat := abvF pa ctx n n
def aboveN (n : Nat) : List Nat := if n = 0 then [0] else abvN pa ctx (pa n) ++ [n]
def lexB (lt : Nat → Nat → Bool) : List Nat → List Nat → Bool
  | _, [] => false
  | [], _ :: _ => true
  | x :: p, y :: q => if x = y then lexB lt p q else lt x y
def aheadN (a b : Nat) : Bool := lexB (fun x y => decide (ltK pa N ctx z x y)) (aboveN pa ctx a) (aboveN pa ctx b)
end
section
variable {pa : Nat → Nat} {N : Nat} {ctx : Nat → Bool} {z : Nat → Int}
theorem kidsN_mem {n j : Nat} : j ∈ kidsN pa N n ↔ j < N ∧ 0 < j ∧ pa j = n := by unfold kidsN; simp
theorem kidsN_gt (hp : ∀ i, 0 < i → pa i < i) {n j : Nat} (h : j ∈ kidsN pa N n) : n < j ∧ j < N := by
  have h1 := kidsN_mem.1 h
  have := hp j h1.2.1
  omega
theorem kidsN_none (hp : ∀ i, 0 < i → pa i < i) {n : Nat} (h : N ≤ n) : kidsN pa N n = [] := by
  apply List.eq_nil_iff_forall_not_mem.2
  intro j hj
  have := kidsN_gt hp hj
  omega
theorem preF_fuel (hp : ∀ i, 0 < i → pa i < i) : ∀ f g n, N - n ≤ f → N - n ≤ g → preF pa N f n = preF pa N g n
  | 0, 0, n, _, _ => rfl
  | 0, g + 1, n, h, _ => by unfold preF; rw [kidsN_none hp (by omega)]; rfl
  | f + 1, 0, n, _, h => by unfold preF; rw [kidsN_none hp (by omega)]; rfl
  | f + 1, g + 1, n, h1, h2 => by
    show n :: _ = n :: _
    exact congrArg _ (fm_congr fun k hk => preF_fuel hp f g k (by have := kidsN_gt hp hk; omega) (by have := kidsN_gt hp hk; omega))
theorem preN_eq (hp : ∀ i, 0 < i → pa i < i) (n : Nat) : preN pa N n = n :: (kidsN pa N n).flatMap (preN pa N) := by
  show preF pa N (N - n) n = _
  rw [preF_fuel hp (N - n) (N - n + 1) n (by omega) (by omega)]
  show n :: _ = n :: _
  exact congrArg _ (fm_congr fun k hk => preF_fuel hp _ _ k (by have := kidsN_gt hp hk; omega) (Nat.le_refl _))
theorem ofnF_fuel (hp : ∀ i, 0 < i → pa i < i) : ∀ f g n, N - n ≤ f → N - n ≤ g → ofnF pa N ctx f n = ofnF pa N ctx g n
  | 0, 0, n, _, _ => rfl
  | 0, g + 1, n, h, _ => by unfold ofnF; rw [kidsN_none hp (by omega)]; rfl
  | f + 1, 0, n, _, h => by unfold ofnF; rw [kidsN_none hp (by omega)]; rfl
  | f + 1, g + 1, n, h1, h2 => by
    refine fm_congr fun k hk => ?_
    rw [ofnF_fuel hp f g k (by have := kidsN_gt hp hk; omega) (by have := kidsN_gt hp hk; omega)]
theorem ofN_eq (hp : ∀ i, 0 < i → pa i < i) (n : Nat) : ofN pa N ctx n = (kidsN pa N n).flatMap fun k => k :: if ctx k then [] else ofN pa N ctx k := by
  show ofnF pa N ctx (N - n) n = _
  rw [ofnF_fuel hp (N - n) (N - n + 1) n (by omega) (by omega)]
  refine fm_congr fun k hk => ?_
  rw [ofnF_fuel hp (N - n) (N - k) k (by have := kidsN_gt hp hk; omega) (Nat.le_refl _)]
  rfl
theorem ofN_gt (hp : ∀ i, 0 < i → pa i < i) : ∀ n k, k ∈ ofN pa N ctx n → n < k ∧ k < N := by
  refine desc (N := N) fun n ih k hk => ?_
  rw [ofN_eq hp] at hk
  obtain ⟨c, hc, hk⟩ := List.mem_flatMap.1 hk
  have hg := kidsN_gt hp hc
  rcases List.mem_cons.1 hk with rfl | hk
  · exact hg
  · split at hk
    · cases hk
    · have := ih c hg.1 hg.2 k hk
      omega
/-- What is below a node is what is below these. -/
theorem ofN_pre (hp : ∀ i, 0 < i → pa i < i) : ∀ n, (ofN pa N ctx n).flatMap (fun k => if ctx k then preN pa N k else [k]) = (kidsN pa N n).flatMap (preN pa N) := by
  refine desc (N := N) fun n ih => ?_
  rw [ofN_eq hp, List.flatMap_assoc]
  refine fm_congr fun c hc => ?_
  have hg := kidsN_gt hp hc
  rw [List.flatMap_cons]
  by_cases h : ctx c = true
  · rw [if_pos h, if_pos h]; exact List.append_nil _
  · rw [if_neg h, if_neg h, ih c hg.1 hg.2, preN_eq hp c]; rfl
theorem sub_uniq (hp : ∀ i, 0 < i → pa i < i) {c d : Nat} (hc : 0 < c) (hd : 0 < d) (he : pa c = pa d) : ∀ k, inSub pa c k = true → inSub pa d k = true → c = d := by
  intro k
  induction k using Nat.strongRecOn with
  | _ k ih =>
    intro h1 h2
    by_cases e1 : k = c
    · subst e1
      by_cases e2 : k = d
      · exact e2
      · rw [inSub_up hp hc e2] at h2
        have := inSub_le hp d _ h2
        have := hp d hd
        omega
    · by_cases e2 : k = d
      · subst e2
        rw [inSub_up hp hd e1] at h1
        have := inSub_le hp c _ h1
        have := hp c hc
        omega
      · rcases Nat.eq_zero_or_pos k with c0 | c0
        · subst c0; rw [inSub_zero pa (by omega)] at h1; cases h1
        · rw [inSub_up hp c0 e1] at h1
          rw [inSub_up hp c0 e2] at h2
          exact ih _ (hp k c0) h1 h2
theorem inSub_root (hp : ∀ i, 0 < i → pa i < i) : ∀ k, inSub pa 0 k = true := by
  intro k
  induction k using Nat.strongRecOn with
  | _ k ih =>
    rcases Nat.eq_zero_or_pos k with c0 | c0
    · subst c0; exact inSub_self pa 0
    · rw [inSub_up hp c0 (by omega)]; exact ih _ (hp k c0)
theorem preN_mem (hp : ∀ i, 0 < i → pa i < i) : ∀ n, n < N → ∀ k, k ∈ preN pa N n ↔ k < N ∧ inSub pa n k = true := by
  refine desc (N := N) fun n ih hn k => ?_
  rw [preN_eq hp, List.mem_cons, List.mem_flatMap]
  by_cases e : k = n
  · subst e; exact ⟨fun _ => ⟨hn, inSub_self pa k⟩, fun _ => .inl rfl⟩
  · rw [inSub_kids hp n k e]
    constructor
    · rintro (q | ⟨c, hc, hk⟩)
      · exact absurd q e
      · have hg := kidsN_gt hp hc
        obtain ⟨k1, k2⟩ := (ih c hg.1 hg.2 hg.2 k).1 hk
        exact ⟨k1, c, by omega, inSub_le hp c k k2, (kidsN_mem.1 hc).2.2, k2⟩
    · rintro ⟨k1, c, c1, c2, c3, c4⟩
      have hc : c ∈ kidsN pa N n := kidsN_mem.2 ⟨by omega, c1, c3⟩
      have hg := kidsN_gt hp hc
      exact .inr ⟨c, hc, (ih c hg.1 hg.2 hg.2 k).2 ⟨k1, c4⟩⟩
theorem kidsN_nodup (n : Nat) : (kidsN pa N n).Nodup := List.Pairwise.filter _ List.nodup_range
theorem preN_nodup (hp : ∀ i, 0 < i → pa i < i) : ∀ n, n < N → (preN pa N n).Nodup := by
  refine desc (N := N) fun n ih hn => ?_
  rw [preN_eq hp, List.nodup_cons]
  refine ⟨fun h => ?_, ?_⟩
  · obtain ⟨c, hc, hk⟩ := List.mem_flatMap.1 h
    have hg := kidsN_gt hp hc
    have := inSub_le hp c n ((preN_mem hp c hg.2 n).1 hk).2
    omega
  · show List.Pairwise _ _
    rw [List.pairwise_flatMap]
    refine ⟨fun c hc => ih c (kidsN_gt hp hc).1 (kidsN_gt hp hc).2 (kidsN_gt hp hc).2, ?_⟩
    refine (kidsN_nodup (pa := pa) (N := N) n).imp_of_mem ?_
    intro c d hc hd hne x hx y hy e
    subst e
    have gc := kidsN_mem.1 hc; have gd := kidsN_mem.1 hd
    exact hne (sub_uniq hp gc.2.1 gd.2.1 (by rw [gc.2.2, gd.2.2]) x ((preN_mem hp c gc.1 x).1 hx).2 ((preN_mem hp d gd.1 x).1 hy).2)
theorem preN_perm (hp : ∀ i, 0 < i → pa i < i) (h : 0 < N) : (preN pa N 0).Perm (List.range N) := by
  rw [List.perm_ext_iff_of_nodup (preN_nodup hp 0 h) List.nodup_range]
  intro k
  rw [preN_mem hp 0 h, List.mem_range]
  exact ⟨fun q => q.1, fun q => ⟨q, inSub_root hp k⟩⟩
theorem preN_len (hp : ∀ i, 0 < i → pa i < i) (h : 0 < N) : (preN pa N 0).length = N := by
  rw [(preN_perm hp h).length_eq, List.length_range]
theorem ofN_sub (hp : ∀ i, 0 < i → pa i < i) : ∀ n, (ofN pa N ctx n).Sublist ((kidsN pa N n).flatMap (preN pa N)) := by
  refine desc (N := N) fun n ih => ?_
  rw [ofN_eq hp]
  refine fm_sub fun c hc => ?_
  have hg := kidsN_gt hp hc
  rw [preN_eq hp c]
  refine List.Sublist.cons_cons _ ?_
  split
  · exact List.nil_sublist _
  · exact ih c hg.1 hg.2
theorem preN_sub (hp : ∀ i, 0 < i → pa i < i) : ∀ n, n < N → (preN pa N n).Sublist (preN pa N 0) := by
  intro n
  induction n using Nat.strongRecOn with
  | _ n ih =>
    intro hn
    rcases Nat.eq_zero_or_pos n with c | c
    · subst c; exact List.Sublist.refl _
    · have hlt := hp n c
      refine List.Sublist.trans ?_ (ih (pa n) hlt (by omega))
      rw [preN_eq hp (pa n)]
      refine List.Sublist.cons _ ?_
      obtain ⟨A, B, e⟩ := List.append_of_mem (kidsN_mem.2 ⟨hn, c, rfl⟩ : n ∈ kidsN pa N (pa n))
      rw [e, List.flatMap_append, List.flatMap_cons]
      exact (List.sublist_append_left _ _).trans (List.sublist_append_right _ _)
theorem ofN_sub0 (hp : ∀ i, 0 < i → pa i < i) {n : Nat} (hn : n < N) : (ofN pa N ctx n).Sublist (preN pa N 0) :=
  (ofN_sub hp n).trans ((by rw [preN_eq hp n]; exact List.sublist_cons_self _ _ : ((kidsN pa N n).flatMap (preN pa N)).Sublist (preN pa N n)).trans (preN_sub hp n hn))
theorem preN_at (hp : ∀ i, 0 < i → pa i < i) (h : 0 < N) {i : Nat} (hi : i < (preN pa N 0).length) : atN pa N ((preN pa N 0)[i]) = i :=
  List.Nodup.idxOf_getElem (preN_nodup hp 0 h) i hi
theorem preN_pw (hp : ∀ i, 0 < i → pa i < i) (h : 0 < N) : (preN pa N 0).Pairwise (fun a b => atN pa N a < atN pa N b) := by
  rw [List.pairwise_iff_getElem]
  intro i j hi hj hij
  rw [preN_at hp h, preN_at hp h]; exact hij
theorem ofN_pw (hp : ∀ i, 0 < i → pa i < i) {n : Nat} (hn : n < N) : (ofN pa N ctx n).Pairwise (fun a b => atN pa N a < atN pa N b) :=
  (preN_pw hp (by omega)).sublist (ofN_sub0 hp hn)
theorem at_inj (hp : ∀ i, 0 < i → pa i < i) {a b : Nat} (ha : a < N) (hb : b < N) (e : atN pa N a = atN pa N b) : a = b := by
  have h0 : 0 < N := by omega
  have ma := (preN_mem hp 0 h0 a).2 ⟨ha, inSub_root hp a⟩
  have mb := (preN_mem hp 0 h0 b).2 ⟨hb, inSub_root hp b⟩
  have h1 := List.getElem_idxOf (List.idxOf_lt_length_iff.2 ma)
  have h2 := List.getElem_idxOf (List.idxOf_lt_length_iff.2 mb)
  rw [← h1, ← h2]
  have e' : List.idxOf a (preN pa N 0) = List.idxOf b (preN pa N 0) := e
  simp only [e']
theorem ltK_asymm {a b : Nat} (h : ltK pa N ctx z a b) : ¬ ltK pa N ctx z b a := by unfold ltK at *; omega
theorem ltK_total (hp : ∀ i, 0 < i → pa i < i) {a b : Nat} (ha : a < N) (hb : b < N) (h : ¬ ltK pa N ctx z b a) (hne : a ≠ b) : ltK pa N ctx z a b := by
  have : atN pa N a ≠ atN pa N b := fun e => hne (at_inj hp ha hb e)
  unfold ltK at *; omega
theorem srtK_perm (l : List Nat) : (srtK pa N ctx z l).Perm l := List.mergeSort_perm _ _
theorem srtK_pw (l : List Nat) : (srtK pa N ctx z l).Pairwise (fun a b => ¬ ltK pa N ctx z b a) := by
  have := List.pairwise_mergeSort (le := fun a b => decide (¬ ltK pa N ctx z b a)) (fun a b c h1 h2 => by
    simp only [decide_eq_true_eq] at *
    unfold ltK at *; omega) (fun a b => by
    simp only [Bool.or_eq_true, decide_eq_true_eq]
    unfold ltK at *; omega) l
  exact this.imp fun h => by simpa using h
theorem ofN_nodup (hp : ∀ i, 0 < i → pa i < i) {n : Nat} (hn : n < N) : (ofN pa N ctx n).Nodup := (preN_nodup hp 0 (by omega)).sublist (ofN_sub0 hp hn)
theorem srtK_up (hp : ∀ i, 0 < i → pa i < i) {n : Nat} (hn : n < N) : (srtK pa N ctx z (ofN pa N ctx n)).Pairwise (ltK pa N ctx z) := by
  have hnd : (srtK pa N ctx z (ofN pa N ctx n)).Nodup := (srtK_perm _).nodup_iff.2 (ofN_nodup hp hn)
  have hb : (srtK pa N ctx z (ofN pa N ctx n)).Pairwise (fun a b => ¬ ltK pa N ctx z b a ∧ a ≠ b) := (srtK_pw _).and hnd
  refine hb.imp_of_mem fun ha hb' h => ?_
  have h1 := ofN_gt hp n _ ((srtK_perm _).mem_iff.1 ha)
  have h2 := ofN_gt hp n _ ((srtK_perm _).mem_iff.1 hb')
  exact ltK_total hp h1.2 h2.2 h.1 h.2
/-- The one sorted row. -/
theorem srtK_uniq (hp : ∀ i, 0 < i → pa i < i) {n : Nat} (hn : n < N) {l : List Nat} (h1 : l.Perm (ofN pa N ctx n)) (h2 : l.Pairwise (ltK pa N ctx z)) : srtK pa N ctx z (ofN pa N ctx n) = l :=
  List.Perm.eq_of_pairwise (le := ltK pa N ctx z) (fun a b _ _ k1 k2 => absurd k2 (ltK_asymm k1)) (srtK_up hp hn) h2 ((srtK_perm _).trans h1.symm)
theorem paintF_fuel (hp : ∀ i, 0 < i → pa i < i) : ∀ f g n, N - n ≤ f → N - n ≤ g → paintF pa N ctx z f n = paintF pa N ctx z g n
  | 0, 0, n, _, _ => rfl
  | 0, g + 1, n, h, _ => by unfold paintF; rw [ofN_eq hp, kidsN_none hp (by omega)]; simp [srtK]
  | f + 1, 0, n, _, h => by unfold paintF; rw [ofN_eq hp, kidsN_none hp (by omega)]; simp [srtK]
  | f + 1, g + 1, n, h1, h2 => by
    show n :: _ = n :: _
    refine congrArg _ (fm_congr fun k hk => ?_)
    have := ofN_gt hp n k ((srtK_perm _).mem_iff.1 hk)
    rw [paintF_fuel hp f g k (by omega) (by omega)]
theorem paintN_eq (hp : ∀ i, 0 < i → pa i < i) (n : Nat) : paintN pa N ctx z n = n :: (srtK pa N ctx z (ofN pa N ctx n)).flatMap fun k => if ctx k then paintN pa N ctx z k else [k] := by
  show paintF pa N ctx z (N - n) n = _
  rw [paintF_fuel hp (N - n) (N - n + 1) n (by omega) (by omega)]
  show n :: _ = n :: _
  refine congrArg _ (fm_congr fun k hk => ?_)
  have := ofN_gt hp n k ((srtK_perm _).mem_iff.1 hk)
  rw [paintF_fuel hp (N - n) (N - k) k (by omega) (Nat.le_refl _)]
  rfl
theorem paintN_perm (hp : ∀ i, 0 < i → pa i < i) : ∀ n, (paintN pa N ctx z n).Perm (preN pa N n) := by
  refine desc (N := N) fun n ih => ?_
  rw [paintN_eq hp, preN_eq hp, ← ofN_pre hp (ctx := ctx) n]
  refine List.Perm.cons _ (((srtK_perm _).flatMap_right _).trans (fm_perm fun k hk => ?_))
  have hg := ofN_gt hp n k hk
  by_cases c : ctx k = true
  · rw [if_pos c, if_pos c]; exact ih k hg.1 hg.2
  · rw [if_neg c, if_neg c]
theorem abvF_fuel (hp : ∀ i, 0 < i → pa i < i) : ∀ f g n, n ≤ f → n ≤ g → abvF pa ctx f n = abvF pa ctx g n
  | 0, 0, n, _, _ => rfl
  | 0, g + 1, n, h, _ => by unfold abvF; rw [if_pos (by omega)]
  | f + 1, 0, n, _, h => by unfold abvF; rw [if_pos (by omega)]
  | f + 1, g + 1, n, h1, h2 => by
    unfold abvF
    by_cases c : n = 0
    · rw [if_pos c, if_pos c]
    · have := hp n (by omega)
      rw [if_neg c, if_neg c, abvF_fuel hp f g (pa n) (by omega) (by omega)]
theorem abvN_zero : abvN pa ctx 0 = [0] := rfl
theorem abvN_pos (hp : ∀ i, 0 < i → pa i < i) {n : Nat} (h : 0 < n) : abvN pa ctx n = abvN pa ctx (pa n) ++ if ctx n then [n] else [] := by
  obtain ⟨m, rfl⟩ : ∃ m, n = m + 1 := ⟨n - 1, by omega⟩
  have := hp (m + 1) h
  show abvF pa ctx (m + 1) (m + 1) = _
  unfold abvF
  rw [if_neg (by omega), abvF_fuel hp m (pa (m + 1)) (pa (m + 1)) (by omega) (Nat.le_refl _)]
  rfl
theorem abvN_ctx (hp : ∀ i, 0 < i → pa i < i) {n : Nat} (h : n = 0 ∨ ctx n = true) : abvN pa ctx n = aboveN pa ctx n := by
  unfold aboveN
  by_cases c : n = 0
  · subst c; rfl
  · rw [if_neg c, abvN_pos hp (by omega), if_pos (h.resolve_left c)]
theorem ofN_abv (hp : ∀ i, 0 < i → pa i < i) : ∀ n k, k ∈ ofN pa N ctx n → abvN pa ctx (pa k) = abvN pa ctx n := by
  refine desc (N := N) fun n ih k hk => ?_
  rw [ofN_eq hp] at hk
  obtain ⟨c, hc, hk⟩ := List.mem_flatMap.1 hk
  have hg := kidsN_gt hp hc
  have hm := kidsN_mem.1 hc
  rcases List.mem_cons.1 hk with rfl | hk
  · rw [hm.2.2]
  · by_cases q : ctx c = true
    · rw [if_pos q] at hk; cases hk
    · rw [if_neg q] at hk
      rw [ih c hg.1 hg.2 k hk, abvN_pos hp hm.2.1, if_neg q, List.append_nil, hm.2.2]
theorem aboveN_of (hp : ∀ i, 0 < i → pa i < i) {n k : Nat} (h : n = 0 ∨ ctx n = true) (hk : k ∈ ofN pa N ctx n) : aboveN pa ctx k = aboveN pa ctx n ++ [k] := by
  have hg := ofN_gt hp n k hk
  rw [← abvN_ctx hp h, ← ofN_abv hp n k hk]
  show (if k = 0 then _ else _) = _
  rw [if_neg (by omega)]
theorem lexB_pre (lt : Nat → Nat → Bool) (p q : List Nat) : ∀ l, lexB lt (l ++ p) (l ++ q) = lexB lt p q
  | [] => rfl
  | x :: l => by
    show (if x = x then _ else _) = _
    rw [if_pos rfl]; exact lexB_pre lt p q l
theorem lexB_asymm {lt : Nat → Nat → Bool} (h : ∀ a b, lt a b = true → lt b a = false) : ∀ p q, lexB lt p q = true → lexB lt q p = false
  | _, [], k => by cases ‹List Nat› <;> simp [lexB] at k
  | [], _ :: _, _ => rfl
  | x :: p, y :: q, k => by
    unfold lexB at *
    by_cases e : x = y
    · rw [if_pos e] at k; rw [if_pos e.symm]; exact lexB_asymm h p q k
    · rw [if_neg e] at k; rw [if_neg (Ne.symm e)]; exact h _ _ k
theorem aheadN_asymm {a b : Nat} (h : aheadN pa N ctx z a b = true) : aheadN pa N ctx z b a = false :=
  lexB_asymm (fun a b k => by simp only [decide_eq_true_eq, decide_eq_false_iff_not] at *; exact ltK_asymm k) _ _ h
theorem paintN_up (hp : ∀ i, 0 < i → pa i < i) : ∀ n, n < N → (n = 0 ∨ ctx n = true) → (∀ x, x ∈ paintN pa N ctx z n → ∃ t, aboveN pa ctx x = aboveN pa ctx n ++ t) ∧ (paintN pa N ctx z n).Pairwise (fun a b => aheadN pa N ctx z a b = true) := by
  refine desc (N := N) fun n ih hn hc => ?_
  have hpart : ∀ k, k ∈ ofN pa N ctx n → (∀ x, x ∈ (if ctx k then paintN pa N ctx z k else [k]) → ∃ t, aboveN pa ctx x = aboveN pa ctx n ++ k :: t) ∧ (if ctx k then paintN pa N ctx z k else [k]).Pairwise (fun a b => aheadN pa N ctx z a b = true) := by
    intro k hk
    have hg := ofN_gt hp n k hk
    have ha := aboveN_of hp hc hk
    by_cases c : ctx k = true
    · rw [if_pos c]
      obtain ⟨i1, i2⟩ := ih k hg.1 hg.2 hg.2 (.inr c)
      refine ⟨fun x hx => ?_, i2⟩
      obtain ⟨t, ht⟩ := i1 x hx
      exact ⟨t, by rw [ht, ha]; simp⟩
    · rw [if_neg c]
      refine ⟨fun x hx => ?_, List.pairwise_singleton _ _⟩
      rw [List.mem_singleton] at hx
      subst hx
      exact ⟨[], ha⟩
  rw [paintN_eq hp]
  refine ⟨fun x hx => ?_, ?_⟩
  · rcases List.mem_cons.1 hx with rfl | hx
    · exact ⟨[], by simp⟩
    · obtain ⟨k, hk, hx⟩ := List.mem_flatMap.1 hx
      obtain ⟨t, ht⟩ := (hpart k ((srtK_perm _).mem_iff.1 hk)).1 x hx
      exact ⟨_, ht⟩
  · rw [List.pairwise_cons]
    refine ⟨fun x hx => ?_, ?_⟩
    · obtain ⟨k, hk, hx⟩ := List.mem_flatMap.1 hx
      obtain ⟨t, ht⟩ := (hpart k ((srtK_perm _).mem_iff.1 hk)).1 x hx
      show lexB _ _ _ = true
      rw [ht]
      have := lexB_pre (fun x y => decide (ltK pa N ctx z x y)) [] (k :: t) (aboveN pa ctx n)
      rw [List.append_nil] at this
      rw [this]; rfl
    · rw [List.pairwise_flatMap]
      refine ⟨fun k hk => (hpart k ((srtK_perm _).mem_iff.1 hk)).2, ?_⟩
      refine (srtK_up hp hn).imp_of_mem ?_
      intro a b ha hb hlt x hx y hy
      obtain ⟨t, ht⟩ := (hpart a ((srtK_perm _).mem_iff.1 ha)).1 x hx
      obtain ⟨u, hu⟩ := (hpart b ((srtK_perm _).mem_iff.1 hb)).1 y hy
      show lexB _ _ _ = true
      rw [ht, hu, lexB_pre]
      unfold lexB
      rw [if_neg (fun e => by subst e; exact ltK_asymm hlt hlt)]
      simpa using hlt
/-- Where a node of a context stands. -/
theorem ofN_up (hp : ∀ i, 0 < i → pa i < i) {m k : Nat} (hm : 0 < m) (hmN : m < N) (hc : ¬ ctx m = true) (h : k ∈ ofN pa N ctx m) : k ∈ ofN pa N ctx (pa m) := by
  rw [ofN_eq hp (pa m)]
  exact List.mem_flatMap.2 ⟨m, kidsN_mem.2 ⟨hmN, hm, rfl⟩, by rw [if_neg hc]; exact List.mem_cons_of_mem _ h⟩
theorem ofN_has (hp : ∀ i, 0 < i → pa i < i) {k : Nat} (hk : 0 < k) (hkN : k < N) : ∃ n, n < k ∧ (n = 0 ∨ ctx n = true) ∧ k ∈ ofN pa N ctx n := by
  have hlt := hp k hk
  have h0 : k ∈ ofN pa N ctx (pa k) := by
    rw [ofN_eq hp]
    exact List.mem_flatMap.2 ⟨k, kidsN_mem.2 ⟨hkN, hk, rfl⟩, List.mem_cons_self⟩
  have : ∀ m, m < k → k ∈ ofN pa N ctx m → ∃ n, n < k ∧ (n = 0 ∨ ctx n = true) ∧ k ∈ ofN pa N ctx n := by
    intro m
    induction m using Nat.strongRecOn with
    | _ m ih =>
      intro hm h
      by_cases c : m = 0 ∨ ctx m = true
      · exact ⟨m, hm, c, h⟩
      · have hm0 : 0 < m := by omega
        have := hp m hm0
        exact ih (pa m) this (by omega) (ofN_up hp hm0 (by omega) (fun q => c (.inr q)) h)
  exact this _ hlt h0
/-- A context stands together. -/
theorem paintN_part (hp : ∀ i, 0 < i → pa i < i) : ∀ c, c < N → (c = 0 ∨ ctx c = true) → ∃ A B, paintN pa N ctx z 0 = A ++ paintN pa N ctx z c ++ B := by
  intro c
  induction c using Nat.strongRecOn with
  | _ c ih =>
    intro hN hc
    rcases Nat.eq_zero_or_pos c with c0 | c0
    · subst c0; exact ⟨[], [], by simp⟩
    · obtain ⟨n, hn, hcn, hm⟩ := ofN_has (ctx := ctx) hp c0 hN
      obtain ⟨A, B, e⟩ := ih n hn (by omega) hcn
      obtain ⟨S, T, e2⟩ := List.append_of_mem ((srtK_perm (pa := pa) (N := N) (ctx := ctx) (z := z) _).mem_iff.2 hm)
      have e3 := paintN_eq (z := z) (ctx := ctx) (N := N) hp n
      rw [e2, List.flatMap_append, List.flatMap_cons, if_pos (hc.resolve_left (by omega))] at e3
      exact ⟨A ++ n :: S.flatMap (fun k => if ctx k then paintN pa N ctx z k else [k]), T.flatMap (fun k => if ctx k then paintN pa N ctx z k else [k]) ++ B, by rw [e, e3]; simp⟩
/-- Without contexts: the tree's order. -/
theorem paintN_flat (hp : ∀ i, 0 < i → pa i < i) (h0 : 0 < N) (hc : ∀ k, 0 < k → ctx k = false) : paintN pa N ctx z 0 = preN pa N 0 := by
  have e : srtK pa N ctx z (ofN pa N ctx 0) = ofN pa N ctx 0 := by
    refine srtK_uniq hp h0 (List.Perm.refl _) ((ofN_pw hp h0).imp_of_mem ?_)
    intro a b ha hb hlt
    have ga := ofN_gt hp 0 a ha; have gb := ofN_gt hp 0 b hb
    have ca := hc a ga.1; have cb := hc b gb.1
    unfold ltK clsN zN
    rw [if_pos ca, if_pos cb, if_pos ca, if_pos cb]
    omega
  rw [paintN_eq hp, e, preN_eq hp 0, ← ofN_pre hp (ctx := ctx) 0]
  refine congrArg _ (fm_congr fun k hk => ?_)
  have := hc k (ofN_gt hp 0 k hk).1
  rw [this]; rfl
/-- The contexts below 0, the rest, the others. -/
theorem srtK_parts (hp : ∀ i, 0 < i → pa i < i) {n : Nat} (hn : n < N) {s : List Nat} (h1 : s.Perm ((ofN pa N ctx n).filter fun k => ctx k)) (h2 : s.Pairwise (fun a b => z a < z b ∨ z a = z b ∧ atN pa N a < atN pa N b)) :
    srtK pa N ctx z (ofN pa N ctx n) = s.filter (fun k => decide (z k < 0)) ++ ((ofN pa N ctx n).filter (fun k => !ctx k) ++ s.filter (fun k => !decide (z k < 0))) := by
  have hs : ∀ k, k ∈ s → ctx k = true := fun k hk => by
    have := h1.mem_iff.1 hk
    simpa using (List.mem_filter.1 this).2
  refine srtK_uniq hp hn ?_ ?_
  · have p1 : (s.filter (fun k => decide (z k < 0)) ++ s.filter (fun k => !decide (z k < 0))).Perm s := List.filter_append_perm _ _
    have p2 : (((ofN pa N ctx n).filter fun k => ctx k) ++ (ofN pa N ctx n).filter (fun k => !ctx k)).Perm (ofN pa N ctx n) := List.filter_append_perm _ _
    refine List.Perm.trans ?_ p2
    refine List.Perm.trans (List.Perm.append_left _ List.perm_append_comm) ?_
    rw [← List.append_assoc]
    exact (p1.trans h1).append_right _
  · have q1 : ∀ k, k ∈ s.filter (fun k => decide (z k < 0)) → clsN ctx z k = 0 ∧ zN ctx z k = z k := fun k hk => by
      have m := List.mem_filter.1 hk
      have c := hs k m.1
      have d : z k < 0 := by simpa using m.2
      unfold clsN zN; rw [c]; simp [d]
    have q2 : ∀ k, k ∈ (ofN pa N ctx n).filter (fun k => !ctx k) → clsN ctx z k = 1 ∧ zN ctx z k = 0 := fun k hk => by
      have m := List.mem_filter.1 hk
      have c : ctx k = false := by simpa using m.2
      unfold clsN zN; rw [c]; simp
    have q3 : ∀ k, k ∈ s.filter (fun k => !decide (z k < 0)) → clsN ctx z k = 2 ∧ zN ctx z k = z k := fun k hk => by
      have m := List.mem_filter.1 hk
      have c := hs k m.1
      have d : ¬ z k < 0 := by simpa using m.2
      unfold clsN zN; rw [c]; simp [d]
    rw [List.pairwise_append, List.pairwise_append]
    refine ⟨(h2.filter _).imp_of_mem ?_, ⟨((ofN_pw hp hn).filter _).imp_of_mem ?_, (h2.filter _).imp_of_mem ?_, ?_⟩, ?_⟩
    · intro a b ha hb h
      have := q1 a ha; have := q1 b hb
      unfold ltK; omega
    · intro a b ha hb h
      have := q2 a ha; have := q2 b hb
      unfold ltK; omega
    · intro a b ha hb h
      have := q3 a ha; have := q3 b hb
      unfold ltK; omega
    · intro a ha b hb
      have := q2 a ha; have := q3 b hb
      unfold ltK; omega
    · intro a ha b hb
      have h := q1 a ha
      rcases List.mem_append.1 hb with hb | hb
      · have := q2 b hb; unfold ltK; omega
      · have := q3 b hb; unfold ltK; omega
end
end Go.Proofs.Ytjcbphhemmdnjaa
