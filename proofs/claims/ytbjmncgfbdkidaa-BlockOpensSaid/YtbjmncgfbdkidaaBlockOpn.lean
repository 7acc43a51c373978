/- The closure of the law BlockOpens. -/
import Derived.Test.YtbjmncgfbdkidaaBlockO
namespace Go.Proofs.Ytbjmncgfbdkidaa
open Go.RowKit
set_option linter.unusedSimpArgs false
set_option linter.unusedVariables false
-- below_from_drew
attribute [local go_sem] ov_cell_same ov_cell_other ov_frozen_same ov_frozen_other ov_size ov_setCell_same ov_setCell_other cell_alloc_old frozen_alloc_old setCell_alloc_old old_alloc old_ov old_drew old_drewN old_setCell
attribute [local go_sem ↓] run_max2 run_min2

/-- A row of places of the call's own. -/
def RowI (w : World) (base : Nat) (a : Option Addr) (c : Nat) (zs : List Int) : Prop := w.ownsRow base 2 1 (.slice a zs.length c) zs.length (ints zs)
theorem RowI.below {w w1 : World} {base c : Nat} {a : Option Addr} {zs : List Int} (h : RowI w base a c zs) (hb : Below w.heap.size w w1) : RowI w1 base a c zs := row_below hb h
theorem KidsIn.below {w w1 : World} {a : Option Addr} {ks : List KidZ} (h : KidsIn w a ks) (hb : Below w.heap.size w w1) : KidsIn w1 a ks := by
  intro h0
  obtain ⟨b, e, hl, hc⟩ := h h0
  refine ⟨b, e, Nat.lt_of_lt_of_le hl hb.size, fun i hi => ?_⟩
  have q := hc i hi
  exact ⟨(hb.cell (p := ⟨b, _, none⟩) hl).trans q.1, (hb.cell (p := ⟨b, _, none⟩) hl).trans q.2.1, (hb.cell (p := ⟨b, _, none⟩) hl).trans q.2.2.1, (hb.cell (p := ⟨b, _, none⟩) hl).trans q.2.2.2.1, (hb.cell (p := ⟨b, _, none⟩) hl).trans q.2.2.2.2.1, (hb.cell (p := ⟨b, _, none⟩) hl).trans q.2.2.2.2.2⟩
theorem stack_ok {al : Option Addr} {cap n : Nat} {ks : List KidZ} {ot ob : Bool} {ys : List Int} {h bu bd au ad : Int} {t : Bool} (hz : stackZ ks ot ob = some ⟨ys, h, bu, bd, au, ad, t⟩) (hn : ks.length = n) (hm : n ≤ 1000) (hcap : n ≤ cap) (w : World) (hk : KidsIn w al ks) :
    Calls Try.prog 25 #[.slice al n cap, .bool ot, .bool ob] w fun e w' => ∃ a c, e = .returned (.agg #[.slice a ys.length c, .int .i64 (h), .int .i64 (bu), .int .i64 (bd), .int .i64 (au), .int .i64 (ad), .bool (t)]) ∧ RowI w' w.heap.size a c ys ∧ Below w.heap.size w w' := by
  have hs := stack_any al cap ks ot ob w (by omega) (by omega) hk
  rw [hz, hn] at hs
  refine hs.mono ?_
  rintro e w3 ⟨hb3, ⟨z', a, c, hz, rfl, hrow⟩ | ⟨hz, _⟩⟩
  · obtain rfl := Option.some.inj hz
    exact ⟨a, c, rfl, hrow, hb3⟩
  · cases hz
abbrev outCells (a : Option Addr) (c : Nat) (ys : List Int) (h bu bd au ad : Int) (t : Bool) : Array Value := #[.slice a ys.length c, .int .i64 h, .int .i64 bu, .int .i64 bd, .int .i64 au, .int .i64 ad, .bool t]
/-- All that was there is as it was, but for three blocks. -/
structure But3 (b1 b2 b3 : Nat) (B : Nat) (w w' : World) : Prop where
  os : w'.os = w.os
  tape : w'.tape = w.tape
  output : w'.output = w.output
  size : w.heap.size ≤ w'.heap.size
  block : ∀ k, k < B → k ≠ b1 → k ≠ b2 → k ≠ b3 → w'.heap[k]? = w.heap[k]?
section
variable {b1 b2 b3 B : Nat} {w u v : World}
theorem But3.of (h : Below B w u) : But3 b1 b2 b3 B w u := ⟨h.os, h.tape, h.output, h.size, fun k hk _ _ _ => h.block k hk⟩
theorem But3.then (h : But3 b1 b2 b3 B w u) (k : Below u.heap.size u v) (hB : B ≤ u.heap.size) : But3 b1 b2 b3 B w v :=
  ⟨k.os.trans h.os, k.tape.trans h.tape, k.output.trans h.output, Nat.le_trans h.size k.size, fun i hi n1 n2 n3 => (k.block i (by omega)).trans (h.block i hi n1 n2 n3)⟩
theorem But3.set {b : Nat} {c : Array Value} {T : TypeId} (h : But3 b1 b2 b3 B w u) (hb : b = b1 ∨ b = b2 ∨ b = b3) : But3 b1 b2 b3 B w (ov u b c T) :=
  ⟨h.os, h.tape, h.output, by rw [ov_size]; exact h.size, fun i hi n1 n2 n3 => (Array.getElem?_setIfInBounds_ne (by omega)).trans (h.block i hi n1 n2 n3)⟩
theorem But3.unset {b : Nat} {c : Array Value} {T : TypeId} (h : But3 b1 b2 b3 B w (ov u b c T)) (hb : b = b1 ∨ b = b2 ∨ b = b3) : But3 b1 b2 b3 B w u :=
  ⟨h.os, h.tape, h.output, by have := h.size; rw [ov_size] at this; exact this, fun i hi n1 n2 n3 => by
    rw [← h.block i hi n1 n2 n3]; exact (Array.getElem?_setIfInBounds_ne (by omega)).symm⟩
theorem But3.below (h : But3 b1 b2 b3 u.heap.size u v) (hw : Below w.heap.size w u) (h1 : w.heap.size ≤ b1) (h2 : w.heap.size ≤ b2) (h3 : w.heap.size ≤ b3) : Below w.heap.size w v :=
  ⟨h.os.trans hw.os, h.tape.trans hw.tape, h.output.trans hw.output, Nat.le_trans hw.size h.size, fun k hk => (h.block k (Nat.lt_of_lt_of_le hk hw.size) (by omega) (by omega) (by omega)).trans (hw.block k hk)⟩
theorem But3.has {b : Nat} {c : Array Value} {T : TypeId} (h : But3 b1 b2 b3 w.heap.size w u) (h0 : Has w b c T) (n1 : b ≠ b1) (n2 : b ≠ b2) (n3 : b ≠ b3) : Has u b c T := (h.block b h0.lt n1 n2 n3).trans h0
end
theorem has_out {u : World} {b b' : Nat} {c c' : Array Value} {T T' : TypeId} (h : Has (ov u b c T) b' c' T') (hne : b' ≠ b) : Has u b' c' T' := (Array.getElem?_setIfInBounds_ne (Ne.symm hne)).symm.trans h
theorem kids_one {w : World} {b : Nat} {T : TypeId} {u d au ad h : Int} {t : Bool} (hh : Has w b #[.int .i64 u, .int .i64 d, .int .i64 au, .int .i64 ad, .int .i64 h, .bool t] T) : KidsIn w (some ⟨b, 0, none⟩) [⟨u, d, au, ad, h, t⟩] :=
  fun _ => ⟨_, rfl, hh.lt, fun i hi => by
    rcases i with _ | i
    · exact ⟨has_cell hh rfl, has_cell hh rfl, has_cell hh rfl, has_cell hh rfl, has_cell hh rfl, has_cell hh rfl⟩
    · simp at hi⟩
set_option maxRecDepth 100000 in
set_option maxHeartbeats 4000000 in
theorem opens_in (ba b1 b2 b3 : Nat) (al : Option Addr) (cap n : Nat) (ks : List KidZ) (zo zc : List Int) (H B A Z : Int) (P : Bool) (w : World) (hz1 : stackZ ks true true = some ⟨zo, H, B, 0, A, 0, P⟩) (hz2 : stackZ ks false false = some ⟨zc, Z, 0, 0, 0, 0, false⟩) (hz3 : stackZ [⟨B, 0, A, 0, H, P⟩] false false = some ⟨[B], Z, 0, 0, 0, 0, false⟩)
    (hn : ks.length = n) (hm : n ≤ 1000) (hcap : n ≤ cap) (hk : KidsIn w al ks) (h0 : Has w ba #[.slice al n cap] 43) (h1 : Has w b1 #[.slice none 0 0, .int .i64 0, .int .i64 0, .int .i64 0, .int .i64 0, .int .i64 0, .bool false] 51) (h2 : Has w b2 #[.slice none 0 0, .int .i64 0, .int .i64 0, .int .i64 0, .int .i64 0, .int .i64 0, .bool false] 51) (h3 : Has w b3 #[.slice none 0 0, .int .i64 0, .int .i64 0, .int .i64 0, .int .i64 0, .int .i64 0, .bool false] 51)
    (n12 : b1 ≠ b2) (n13 : b1 ≠ b3) (n23 : b2 ≠ b3) :
    Calls Try.prog 29 #[.pointer (some ⟨ba, 0, none⟩), .pointer (some ⟨b1, 0, none⟩), .pointer (some ⟨b2, 0, none⟩), .pointer (some ⟨b3, 0, none⟩)] w fun e w' => e = .returned (.tuple #[]) ∧ But3 b1 b2 b3 w.heap.size w w' ∧
      ∃ a1 c1 a2 c2 a3 c3, Has w' b1 (outCells a1 c1 zo H B 0 A 0 P) 51 ∧ Has w' b2 (outCells a2 c2 zc Z 0 0 0 0 false) 51 ∧ Has w' b3 (outCells a3 c3 [B] Z 0 0 0 0 false) 51 ∧ RowI w' w.heap.size a1 c1 zo ∧ RowI w' w.heap.size a2 c2 zc ∧ RowI w' w.heap.size a3 c3 [B] := by
  have S1 := Lib.hid (fun w hk => stack_ok hz1 hn hm hcap w (al := al) hk)
  have S2 := Lib.hid (fun w hk => stack_ok hz2 hn hm hcap w (al := al) hk)
  have S3 := Lib.hid (fun w al hk => stack_ok hz3 (n := 1) (cap := 1) rfl (by omega) (by omega) w (al := al) hk)
  have lb := h0.lt
  have c0 : w.cell? ⟨ba, 0, none⟩ = some (.slice al n cap) := has_cell h0 rfl
  have H1 := Lib.hid h1; have H2 := Lib.hid h2; have H3 := Lib.hid h3
  have m1 := n12.symm; have m2 := n13.symm; have m3 := n23.symm
  clear h0 h1 h2 h3 hz1 hz2 hz3
  go_enter Try.func29, Try.ntmps29
  go_wp2_with fail
  replace hk : KidsIn w.drew al ks := hk
  refine region_ord [(0, 0), (2, 0), (1, 1), (3, 1), (4, 2), (5, 2)] (by kernel_rfl) (by kernel_rfl) (fun _ _ d _ _ h => by cases d <;> exact h) (fun hS => ?_)
  (refine wpG_read (v := ?_) rfl (.inl ⟨by rfl, fun wx hbx => ?_⟩) ?_; rotate_left; (focus (obtain ⟨cx0, fx0, zx0⟩ := bk hbx (ba) (by first | omega | (simp; done) | (simp; omega)); go_simp; (try go_bits); (try with_reducible rfl))); try simp only [Act.put, List.setIfInBounds_toArray, List.set_cons_zero, List.set_cons_succ])
  (refine wpG_read (v := ?_) rfl (.inl ⟨by rfl, fun wx hbx => ?_⟩) ?_; rotate_left; (focus (obtain ⟨cx0, fx0, zx0⟩ := bk hbx (ba) (by first | omega | (simp; done) | (simp; omega)); go_simp; (try go_bits); (try with_reducible rfl))); try simp only [Act.put, List.setIfInBounds_toArray, List.set_cons_zero, List.set_cons_succ])
  (refine wpG_make rfl (fun K hK => ?_); go_simp; (first | (go_at_call 25; (with_reducible refine (S1.out _ hk).mono ?_); rintro e u1 ⟨a1, c1, rfl, r1, hb⟩; replace hk := hk.below hb; have hz := hb.size; refine (fun hB => ?_ : Below w.heap.size w u1 → _) ?_; rotate_left; (focus ((repeat' (first | (with_reducible exact Below.refl _ _) | (with_reducible assumption) | (with_reducible refine below_from_drew ?_) | (with_reducible refine Below.alloc ?_ ?_ _) | (with_reducible refine Below.drew ?_) | (with_reducible refine below_drewN ?_ _) | (with_reducible refine Below.setCell ?_ ?_ _) | (with_reducible refine below_via ?_ (by assumption) ?_) | (with_reducible refine below_ov ?_ ?_ _ _) | go_size)); done)); (try simp only [World.size_alloc, World.size_setCell, World.size_drew, ov_size] at hz)); (have hB1 := hB) | (go_at_call 25; (with_reducible refine (S2.out _ hk).mono ?_); rintro e u2 ⟨a2, c2, rfl, r2, hb⟩; replace hk := hk.below hb; replace r1 := r1.below hb; have hz := hb.size; refine (fun hB => ?_ : Below u1.heap.size u1 u2 → _) ?_; rotate_left; (focus ((repeat' (first | (with_reducible exact Below.refl _ _) | (with_reducible assumption) | (with_reducible refine below_from_drew ?_) | (with_reducible refine Below.alloc ?_ ?_ _) | (with_reducible refine Below.drew ?_) | (with_reducible refine below_drewN ?_ _) | (with_reducible refine Below.setCell ?_ ?_ _) | (with_reducible refine below_via ?_ (by assumption) ?_) | (with_reducible refine below_ov ?_ ?_ _ _) | go_size)); done)); (try simp only [World.size_alloc, World.size_setCell, World.size_drew, ov_size] at hz)); (have K1 := has_below hB (has_below hB1 H1.out)); (have K2 := has_below hB (has_below hB1 H2.out)); (have K3 := has_below hB (has_below hB1 H3.out)); (have hs1 := hB1.size); (have hBB := hB1.trans (hB.mono hB1.size)); obtain ⟨v, rfl⟩ : ∃ v, u2 = ov (ov v b1 #[.slice none 0 0, .int .i64 0, .int .i64 0, .int .i64 0, .int .i64 0, .int .i64 0, .bool false] 51) b2 #[.slice none 0 0, .int .i64 0, .int .i64 0, .int .i64 0, .int .i64 0, .int .i64 0, .bool false] 51 := ⟨u2, by rw [ov_self K1, ov_self K2]⟩; (have l1 := K1.lt); (have l2 := K2.lt); (have l3 := K3.lt); simp only [ov_size] at l1 l2 l3; (have KK3 := Lib.hid K3); (have HBB := Lib.hid hBB); (have R1 := Lib.hid r1); (have R2 := Lib.hid r2); clear K1 K2 K3 r1 r2 hBB); (try simp only []); refine hK _ _ ?_ (fun hS2 => ?_); (focus ((repeat' (first | (with_reducible exact Below.refl _ _) | (with_reducible assumption) | (with_reducible refine below_from_drew ?_) | (with_reducible refine Below.alloc ?_ ?_ _) | (with_reducible refine Below.drew ?_) | (with_reducible refine below_drewN ?_ _) | (with_reducible refine Below.setCell ?_ ?_ _) | (with_reducible refine below_via ?_ (by assumption) ?_) | (with_reducible refine below_ov ?_ ?_ _ _) | go_size)); done)); clear hK K hS; have hS := hS2; clear hS2; (try clear hb); try simp only [Act.put, List.setIfInBounds_toArray, List.set_cons_zero, List.set_cons_succ])
  (refine wpG_make rfl (fun K hK => ?_); go_simp; (first | (go_at_call 25; (with_reducible refine (S1.out _ hk).mono ?_); rintro e u1 ⟨a1, c1, rfl, r1, hb⟩; replace hk := hk.below hb; have hz := hb.size; refine (fun hB => ?_ : Below w.heap.size w u1 → _) ?_; rotate_left; (focus ((repeat' (first | (with_reducible exact Below.refl _ _) | (with_reducible assumption) | (with_reducible refine below_from_drew ?_) | (with_reducible refine Below.alloc ?_ ?_ _) | (with_reducible refine Below.drew ?_) | (with_reducible refine below_drewN ?_ _) | (with_reducible refine Below.setCell ?_ ?_ _) | (with_reducible refine below_via ?_ (by assumption) ?_) | (with_reducible refine below_ov ?_ ?_ _ _) | go_size)); done)); (try simp only [World.size_alloc, World.size_setCell, World.size_drew, ov_size] at hz)); (have hB1 := hB) | (go_at_call 25; (with_reducible refine (S2.out _ hk).mono ?_); rintro e u2 ⟨a2, c2, rfl, r2, hb⟩; replace hk := hk.below hb; replace r1 := r1.below hb; have hz := hb.size; refine (fun hB => ?_ : Below u1.heap.size u1 u2 → _) ?_; rotate_left; (focus ((repeat' (first | (with_reducible exact Below.refl _ _) | (with_reducible assumption) | (with_reducible refine below_from_drew ?_) | (with_reducible refine Below.alloc ?_ ?_ _) | (with_reducible refine Below.drew ?_) | (with_reducible refine below_drewN ?_ _) | (with_reducible refine Below.setCell ?_ ?_ _) | (with_reducible refine below_via ?_ (by assumption) ?_) | (with_reducible refine below_ov ?_ ?_ _ _) | go_size)); done)); (try simp only [World.size_alloc, World.size_setCell, World.size_drew, ov_size] at hz)); (have K1 := has_below hB (has_below hB1 H1.out)); (have K2 := has_below hB (has_below hB1 H2.out)); (have K3 := has_below hB (has_below hB1 H3.out)); (have hs1 := hB1.size); (have hBB := hB1.trans (hB.mono hB1.size)); obtain ⟨v, rfl⟩ : ∃ v, u2 = ov (ov v b1 #[.slice none 0 0, .int .i64 0, .int .i64 0, .int .i64 0, .int .i64 0, .int .i64 0, .bool false] 51) b2 #[.slice none 0 0, .int .i64 0, .int .i64 0, .int .i64 0, .int .i64 0, .int .i64 0, .bool false] 51 := ⟨u2, by rw [ov_self K1, ov_self K2]⟩; (have l1 := K1.lt); (have l2 := K2.lt); (have l3 := K3.lt); simp only [ov_size] at l1 l2 l3; (have KK3 := Lib.hid K3); (have HBB := Lib.hid hBB); (have R1 := Lib.hid r1); (have R2 := Lib.hid r2); clear K1 K2 K3 r1 r2 hBB); (try simp only []); refine hK _ _ ?_ (fun hS2 => ?_); (focus ((repeat' (first | (with_reducible exact Below.refl _ _) | (with_reducible assumption) | (with_reducible refine below_from_drew ?_) | (with_reducible refine Below.alloc ?_ ?_ _) | (with_reducible refine Below.drew ?_) | (with_reducible refine below_drewN ?_ _) | (with_reducible refine Below.setCell ?_ ?_ _) | (with_reducible refine below_via ?_ (by assumption) ?_) | (with_reducible refine below_ov ?_ ?_ _ _) | go_size)); done)); clear hK K hS; have hS := hS2; clear hS2; (try clear hb); try simp only [Act.put, List.setIfInBounds_toArray, List.set_cons_zero, List.set_cons_succ])
  (refine wpG_late rfl (fun K hK => ?_); go_simp; (try simp only []); (try simp only []); refine hK _ _ ?_; clear hK K; try simp only [Act.put, List.setIfInBounds_toArray, List.set_cons_zero, List.set_cons_succ])
  (refine wpG_late rfl (fun K hK => ?_); go_simp; (try simp only []); (try simp only []); refine hK _ _ ?_; clear hK K; try simp only [Act.put, List.setIfInBounds_toArray, List.set_cons_zero, List.set_cons_succ])
  refine wpG_nil ?_
  go_wp2_with fail
  refine (S3.out _ (some ⟨v.heap.size, 0, none⟩) (kids_one (has_new (by simp)))).mono ?_
  rintro e w3 ⟨a3, c3, rfl, r3, hb3⟩
  have hv3 := has_out (has_out KK3.out m3) m2
  have K3 := has_below hb3 (has_alloc (has_ov_other m3 (has_ov_other m2 hv3)))
  have J1 := has_below hb3 (has_alloc (has_ov_other n12 (has_ov_same l1)))
  have J2 := has_below hb3 (has_alloc (has_ov_same (by simpa using l2)))
  have i1 := H1.out.lt; have i2 := H2.out.lt; have i3 := H3.out.lt
  have Q1 := row_out (row_out (show RowI _ w.heap.size a1 c1 zo from R1.out) i2) i1
  have Q2 := row_out (row_out (row_mono R2.out hs1) i2) i1
  have P1 := row_below hb3 ((row_in (row_in Q1 i1) i2).alloc _)
  have P2 := row_below hb3 ((row_in (row_in Q2 i1) i2).alloc _)
  have hsz := hb3.size
  simp only [World.size_alloc, ov_size] at hsz
  have hBut : But3 b1 b2 b3 w.heap.size w w3 := by
    have q := (But3.of (b1 := b1) (b2 := b2) (b3 := b3) HBB.out)
    have q2 := (((q.unset (.inr (.inl rfl))).unset (.inl rfl)).set (c := #[.slice a1 zo.length c1, .int .i64 H, .int .i64 B, .int .i64 0, .int .i64 A, .int .i64 0, .bool P]) (T := 51) (.inl rfl)).set (c := #[.slice a2 zc.length c2, .int .i64 Z, .int .i64 0, .int .i64 0, .int .i64 0, .int .i64 0, .bool false]) (T := 51) (.inr (.inl rfl))
    exact (q2.then ((Below.refl _ _).alloc (Nat.le_refl _) _) q2.size).then hb3 (Nat.le_trans q2.size (by simp))
  have hws : w.heap.size ≤ v.heap.size := by have := HBB.out.size; simpa using this
  have P3 := row_mono (base' := w.heap.size) r3 (by simp; omega)
  have l6 := K3.lt
  have KB := Lib.hid hBut; have KP1 := Lib.hid P1; have KP2 := Lib.hid P2; have KP3 := Lib.hid P3; have KJ1 := Lib.hid J1; have KJ2 := Lib.hid J2
  rw [← ov_self K3]
  clear hv3 K3 J1 J2 Q1 Q2 P1 P2 hBut r3 P3 hb3 hk hB hS
  go_wp2_with fail
  go_end0
  exact ⟨rfl, KB.out.set (.inr (.inr rfl)), a1, c1, a2, c2, a3, c3, has_ov_other n13 KJ1.out, has_ov_other n23 KJ2.out, has_ov_same l6, row_in KP1.out i3, row_in KP2.out i3, row_in KP3.out i3⟩
end Go.Proofs.Ytbjmncgfbdkidaa
