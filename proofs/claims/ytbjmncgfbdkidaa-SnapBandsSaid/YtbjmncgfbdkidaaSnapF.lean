/- SnapBorders, plain; snap.Bands of borders that are whole pixels. -/
import Derived.Test.YtbjmncgfbdkidaaSnapD
-- SOFT
namespace Go.Proofs.Ytbjmncgfbdkidaa
open Go.RowKit
set_option linter.unusedSimpArgs false
set_option linter.unusedVariables false

/-- Four numbers of a rectangle that is put right, with what is known of them. -/
theorem r_in {a b c d : Int} (h1 : -1073741824 ≤ a ∧ a ≤ 1073741824) (h2 : -1073741824 ≤ b ∧ b ≤ 1073741824) (h3 : -1073741824 ≤ c ∧ c ≤ 1073741824) (h4 : -1073741824 ≤ d ∧ d ≤ 1073741824) :
    (a < c ∧ b < d ∧ r0 a b c d = a ∧ r1 a b c d = b ∧ r2 a b c d = c ∧ r3 a b c d = d) ∨ ((c ≤ a ∨ d ≤ b) ∧ r0 a b c d = 0 ∧ r1 a b c d = 0 ∧ r2 a b c d = 0 ∧ r3 a b c d = 0) := by
  have q := r_all a b c d
  rw [bnd_in h1, bnd_in h2, bnd_in h3, bnd_in h4] at q
  exact q
/-- What is known of the bands, where the borders have room. -/
def Bnds (A0 A1 A2 A3 A4 A5 A6 A7 A8 A9 A10 A11 A12 A13 A14 A15 T R B L : Int) : Prop :=
  (NF A0 A1 A2 A3 ∧ ((A0 < A2 ∧ A3 - A1 = T) ∨ (A2 ≤ A0 ∧ T = 0))) ∧ (NF A4 A5 A6 A7 ∧ ((A4 < A6 ∧ A6 - A4 = R) ∨ A6 ≤ A4)) ∧ (NF A8 A9 A10 A11 ∧ ((A8 < A10 ∧ A11 - A9 = B) ∨ (A10 ≤ A8 ∧ B = 0))) ∧ (NF A12 A13 A14 A15 ∧ ((A12 < A14 ∧ A14 - A12 = L) ∨ A14 ≤ A12))
theorem bands_b {p q r s T R B L : Int} (h : NF p q r s) (hpr : p < r) (hT : 0 ≤ T ∧ T ≤ 255) (hR : 0 ≤ R ∧ R ≤ 255) (hB : 0 ≤ B ∧ B ≤ 255) (hL : 0 ≤ L ∧ L ≤ 255) (h1 : T + B ≤ s - q) (h2 : R + L ≤ r - p) :
    ∃ A0 A1 A2 A3 A4 A5 A6 A7 A8 A9 A10 A11 A12 A13 A14 A15 : Int, Bnds A0 A1 A2 A3 A4 A5 A6 A7 A8 A9 A10 A11 A12 A13 A14 A15 T R B L ∧
      ∀ w, Calls Try.prog 17 #[(.agg #[.int .i64 (p), .int .i64 (q), .int .i64 (r), .int .i64 (s)]), (.agg #[.int .i64 (64 * T), .int .i64 (64 * R), .int .i64 (64 * B), .int .i64 (64 * L)])] w fun ed w' => ed = .returned (.tuple #[.agg #[.int .i64 A0, .int .i64 A1, .int .i64 A2, .int .i64 A3, .int .i64 A4, .int .i64 A5, .int .i64 A6, .int .i64 A7, .int .i64 A8, .int .i64 A9, .int .i64 A10, .int .i64 A11, .int .i64 A12, .int .i64 A13, .int .i64 A14, .int .i64 A15], (.agg #[.int .i64 (i0 p q r s T R B L), .int .i64 (i1 p q r s T R B L), .int .i64 (i2 p q r s T R B L), .int .i64 (i3 p q r s T R B L)])]) ∧ Below w.heap.size w w' := by
  have hn := h
  unfold NF at hn
  have hqs : q < s := by omega
  have n1 := nf_r p q r (q + T)
  have n2 := nf_r (r - R) (r1 p (q + T) r (s - B)) r (r3 p (q + T) r (s - B))
  have n3 := nf_r p (s - B) r s
  have n4 := nf_r p (r1 p (q + T) r (s - B)) (p + L) (r3 p (q + T) r (s - B))
  have k0 := r_in (a := p) (b := q + T) (c := r) (d := s - B) (by omega) (by omega) (by omega) (by omega)
  have hm1 : -1073741824 ≤ r1 p (q + T) r (s - B) ∧ r1 p (q + T) r (s - B) ≤ 1073741824 := by omega
  have hm3 : -1073741824 ≤ r3 p (q + T) r (s - B) ∧ r3 p (q + T) r (s - B) ≤ 1073741824 := by omega
  have hb := bands_any p q r s (64 * T) (64 * R) (64 * B) (64 * L) h (by unfold i64; omega) (by unfold i64; omega) (by unfold i64; omega) (by unfold i64; omega) T B L R
    (by unfold bT pxF; omega) (by unfold bB bT pxF; omega) (by unfold bL pxF; omega) (by unfold bE bL pxF; omega) _ _ _ _ rfl rfl rfl rfl
  have hok : okR p q r s = true := (ok_iff p q r s).2 (by obtain ⟨s0, s1, s2, s3⟩ := r_same h; omega)
  have f1 : farI T = T := by clear k0 hm1 hm3; unfold farI; omega
  have f2 : farI R = R := by clear k0 hm1 hm3; unfold farI; omega
  have f3 : farI B = B := by clear k0 hm1 hm3; unfold farI; omega
  have f4 : farI L = L := by clear k0 hm1 hm3; unfold farI; omega
  obtain ⟨s0, s1, s2, s3⟩ := r_same h
  rw [i0_t hok, i1_t hok, i2_t hok, i3_t hok, s0, s1, s2, s3, f1, f2, f3, f4]
  clear f1 f2 f3 f4 hok s0 s1 s2 s3 h
  have g1 : (r0 p q r (q + T) < r2 p q r (q + T) ∧ r3 p q r (q + T) - r1 p q r (q + T) = T) ∨ (r2 p q r (q + T) ≤ r0 p q r (q + T) ∧ T = 0) := by
    clear k0 hm1 hm3
    have k1 := r_in (a := p) (b := q) (c := r) (d := q + T) (by omega) (by omega) (by omega) (by omega)
    omega
  have g3 : (r0 p (s - B) r s < r2 p (s - B) r s ∧ r3 p (s - B) r s - r1 p (s - B) r s = B) ∨ (r2 p (s - B) r s ≤ r0 p (s - B) r s ∧ B = 0) := by
    clear k0 hm1 hm3 g1
    have k1 := r_in (a := p) (b := s - B) (c := r) (d := s) (by omega) (by omega) (by omega) (by omega)
    omega
  have k6 := r_in (a := p + L) (b := q + T) (c := r - R) (d := s - B) (by omega) (by omega) (by omega) (by omega)
  generalize r1 p (q + T) r (s - B) = m1 at *
  generalize r3 p (q + T) r (s - B) = m3 at *
  have g2 : (r0 (r - R) m1 r m3 < r2 (r - R) m1 r m3 ∧ r2 (r - R) m1 r m3 - r0 (r - R) m1 r m3 = R) ∨ r2 (r - R) m1 r m3 ≤ r0 (r - R) m1 r m3 := by
    clear k0 g1 g3 k6
    have k1 := r_in (a := r - R) (b := m1) (c := r) (d := m3) (by omega) hm1 (by omega) hm3
    omega
  have g4 : (r0 p m1 (p + L) m3 < r2 p m1 (p + L) m3 ∧ r2 p m1 (p + L) m3 - r0 p m1 (p + L) m3 = L) ∨ r2 p m1 (p + L) m3 ≤ r0 p m1 (p + L) m3 := by
    clear k0 g1 g2 g3 k6
    have k1 := r_in (a := p) (b := m1) (c := p + L) (d := m3) (by omega) hm1 (by omega) hm3
    omega
  have k5 := r_in (a := p + L) (b := m1) (c := r - R) (d := m3) (by omega) hm1 (by omega) hm3
  have e : r0 (p + L) m1 (r - R) m3 = r0 (p + L) (q + T) (r - R) (s - B) ∧ r1 (p + L) m1 (r - R) m3 = r1 (p + L) (q + T) (r - R) (s - B) ∧ r2 (p + L) m1 (r - R) m3 = r2 (p + L) (q + T) (r - R) (s - B) ∧ r3 (p + L) m1 (r - R) m3 = r3 (p + L) (q + T) (r - R) (s - B) := by
    clear g1 g2 g3 g4 hb n1 n2 n3 n4
    rcases k0 with ⟨a1, a2, a3, a4, a5, a6⟩ | ⟨a1, a3, a4, a5, a6⟩
    · subst a4 a6
      exact ⟨rfl, rfl, rfl, rfl⟩
    · rcases k5 with ⟨b1, b2, b3, b4, b5, b6⟩ | ⟨b1, b3, b4, b5, b6⟩
      · omega
      · rcases k6 with ⟨c1, c2, c3, c4, c5, c6⟩ | ⟨c1, c3, c4, c5, c6⟩
        · omega
        · rw [b3, b4, b5, b6, c3, c4, c5, c6]; exact ⟨rfl, rfl, rfl, rfl⟩
  obtain ⟨e0, e1, e2, e3⟩ := e
  rw [← e0, ← e1, ← e2, ← e3]
  exact ⟨_, _, _, _, _, _, _, _, _, _, _, _, _, _, _, _, ⟨⟨n1, g1⟩, ⟨n2, g2⟩, ⟨n3, g3⟩, ⟨n4, g4⟩⟩, fun w => hb w⟩
theorem bands_z (T R B L : Int) (hT : 0 ≤ T ∧ T ≤ 255) (hR : 0 ≤ R ∧ R ≤ 255) (hB : 0 ≤ B ∧ B ≤ 255) (hL : 0 ≤ L ∧ L ≤ 255) (w : World) :
    Calls Try.prog 17 #[(.agg #[.int .i64 (0), .int .i64 (0), .int .i64 (0), .int .i64 (0)]), (.agg #[.int .i64 (64 * T), .int .i64 (64 * R), .int .i64 (64 * B), .int .i64 (64 * L)])] w fun ed w' => ed = .returned (.tuple #[.agg #[.int .i64 0, .int .i64 0, .int .i64 0, .int .i64 0, .int .i64 0, .int .i64 0, .int .i64 0, .int .i64 0, .int .i64 0, .int .i64 0, .int .i64 0, .int .i64 0, .int .i64 0, .int .i64 0, .int .i64 0, .int .i64 0], (.agg #[.int .i64 (0), .int .i64 (0), .int .i64 (0), .int .i64 (0)])]) ∧ Below w.heap.size w w' :=
  (bands_any 0 0 0 0 (64 * T) (64 * R) (64 * B) (64 * L) (by unfold NF; omega) (by unfold i64; omega) (by unfold i64; omega) (by unfold i64; omega) (by unfold i64; omega) 0 0 0 0
    (by unfold bT pxF; omega) (by unfold bB bT pxF; omega) (by unfold bL pxF; omega) (by unfold bE bL pxF; omega) 0 0 0 0 (by decide) (by decide) (by decide) (by decide) w).mono fun e w' ⟨he, hb⟩ => ⟨he.trans (by kernel_rfl), hb⟩
/-- The box with its borders. -/
theorem cutB_wide {x y u v T R B L : Int} (h : cutB x y u v) (hu : u < 1073741824) (hv : v < 1073741824) (hT : 0 ≤ T ∧ T ≤ 255) (hR : 0 ≤ R ∧ R ≤ 255) (hB : 0 ≤ B ∧ B ≤ 255) (hL : 0 ≤ L ∧ L ≤ 255) : cutB x y (u + 64 * R + 64 * L) (v + 64 * T + 64 * B) := by
  unfold cutB at h ⊢
  omega
theorem ed_wide (n k m : Int) : ed (n + 64 * k + 64 * m) = ed n + k + m := by unfold ed; omega
theorem ed_mono {a b : Int} (h : a ≤ b) : ed a ≤ ed b := by unfold ed; omega
end Go.Proofs.Ytbjmncgfbdkidaa
