/- flexline.Sorted, up to 60 items. -/
import Derived.Test.YtgelkmpmificpaaSortJ
import Derived.Test.YtgelkmpmificpaaInts
import Derived.Deep.OwnRows
namespace Go.Proofs.Ytgelkmpmificpaa
open Go.RowKit
set_option linter.unusedSimpArgs false
set_option linter.unusedVariables false
-- below_from_drew
attribute [local go_sem] ov_cell_same ov_cell_other ov_frozen_same ov_frozen_other ov_size ov_setCell_same ov_setCell_other cell_alloc_old frozen_alloc_old setCell_alloc_old old_alloc old_ov old_drew old_drewN old_setCell
attribute [local go_sem ↓] run_max2 run_min2

theorem made_places (n : Nat) : madeCells #[Value.int .i64 0] n = placeCells (List.replicate n 0) := by
  apply Array.ext'
  simp [madeCells, placeCells]
  exact List.eq_replicate_iff.2 ⟨by simp, fun b hb => by simp at hb; obtain ⟨_, _, rfl⟩ := hb; simp [Nat.mod_one]⟩
theorem placeCells_set (ys : List Nat) (j x : Nat) : (placeCells ys).setIfInBounds j (.int .i64 (x : Int)) = placeCells (ys.set j x) := by
  unfold placeCells; simp [List.map_set]
theorem infoI : (Try.prog.info? 3).map (fun i => (i.zero, i.size, i.bytes)) = some (some (.int .i64 0), 1, 8) := by kernel_rfl
/-- The sort's contract, at any number of items. -/
theorem sort_all (p g n cap : Nat) (a : Option Addr) (os : List Int) (ys : List Nat) (T T' : TypeId) (W : World) (hon : os.length = n) (h60 : n ≤ 60) (hr : IntsAt W a os) (hap : 0 < n → ∀ b off, a = some ⟨b, off, none⟩ → b ≠ g) (hp : Has W p #[.slice a n cap] T') (hpg : p ≠ g) (hg : Has W g (placeCells ys) T) (hn : ys.length = n) (hid : ∀ p, p < n → ys.getD p 0 = p) :
    Calls Try.prog 54 #[.slice (some ⟨g, 0, none⟩) n n, .func (Fn.func 55) #[] #[.pointer (some ⟨p, 0, none⟩)]] W fun e w' => e = .returned (.tuple #[]) ∧ ∃ zs, zs.length = n ∧ UpT os zs 0 n ∧ InR n zs ∧ SortL W g T zs w' := by
  rcases Nat.eq_zero_or_pos n with h0 | h0
  · subst h0
    obtain rfl : ys = [] := List.eq_nil_of_length_eq_zero hn
    refine (sortstable_zero p g 0 T W hg).mono ?_
    rintro e w' ⟨rfl, hl⟩
    exact ⟨rfl, [], rfl, fun p q p1 pq q1 => by omega, fun p hp => by simp at hp, hl⟩
  · obtain ⟨b, off, rfl, hb, hc⟩ := hr (by omega)
    have hbg := hap h0 b off rfl
    refine sortstable_any p b off cap g n n os ys T W hn hon h60 (Nat.le_refl _) hid ⟨hp.lt, hb, hpg, hbg, by omega, ?_, hc⟩ hg
    rw [hp.cells, hon]; rfl
set_option maxRecDepth 100000 in
set_option maxHeartbeats 4000000 in
theorem sorted_any (a : Option Addr) (n cap : Nat) (os : List Int) (w : World) (hon : os.length = n) (h60 : n ≤ 60) (hr : IntsAt w a os) :
    Calls Try.prog 14 #[.slice a n cap] w fun e w' => ∃ g zs, e = .returned (.slice (some ⟨g, 0, none⟩) n n) ∧ zs.length = n ∧ UpT os zs 0 n ∧ InR n zs ∧ Has w' g (placeCells zs) 3 ∧ Below w.heap.size w w' := by
  obtain ⟨i0, hi, hz0, hz1, hz2⟩ := info_parts infoI
  have HR := Lib.hid hr; have HON := Lib.hid hon
  clear hr hon
  go_enter Try.func14, Try.ntmps14
  go_wp2_with (at_make; refine wpList_make_row _ rfl _ _ 22 rfl 3 i0 (.int .i64 0) Try.underlying22 hi hz0 hz1 rfl .i64 .i64 n rfl rfl ?c1 ?c2 ?_)
  case c1 => rw [hz2]; omega
  case c2 => omega
  rw [made_places]
  go_loopw [10] (fun iv wr => ∃ (k : Nat) (ys : List Nat), k ≤ n ∧ iv = .int .i64 (k : Int) ∧ ys.length = n ∧ (∀ p, p < k → ys.getD p 0 = p) ∧ Below w.heap.size w wr ∧ Has wr w.heap.size #[.slice a n cap] 22 ∧ Has wr (w.heap.size + 1) (placeCells ys) 3) (fun iv _ => n - (intOf iv).toNat)
  case atStart => exact ⟨0, List.replicate n 0, by omega, rfl, by simp, fun p hp => by omega, by (repeat' (first | (with_reducible exact Below.refl _ _) | (with_reducible assumption) | (with_reducible refine below_from_drew ?_) | (with_reducible refine Below.alloc ?_ ?_ _) | (with_reducible refine Below.drew ?_) | (with_reducible refine below_drewN ?_ _) | (with_reducible refine Below.setCell ?_ ?_ _) | (with_reducible refine below_via ?_ (by assumption) ?_) | (with_reducible refine below_ov ?_ ?_ _ _) | go_size)), by (repeat' (first | (with_reducible refine has_drew ?_) | (with_reducible refine has_drewN ?_) | (with_reducible refine has_new ?_; (first | (with_reducible rfl) | omega | (simp; done) | (simp; omega))) | (with_reducible refine has_ov_same ?_; (first | (with_reducible rfl) | omega | (simp; done) | (simp; omega))) | (with_reducible refine has_alloc ?_) | (with_reducible refine has_ov_other ?_ ?_; (focus (first | (with_reducible rfl) | omega | (simp; done) | (simp; omega)))) | (with_reducible assumption))), by (repeat' (first | (with_reducible refine has_drew ?_) | (with_reducible refine has_drewN ?_) | (with_reducible refine has_new ?_; (first | (with_reducible rfl) | omega | (simp; done) | (simp; omega))) | (with_reducible refine has_ov_same ?_; (first | (with_reducible rfl) | omega | (simp; done) | (simp; omega))) | (with_reducible refine has_alloc ?_) | (with_reducible refine has_ov_other ?_ ?_; (focus (first | (with_reducible rfl) | omega | (simp; done) | (simp; omega)))) | (with_reducible assumption)))⟩
  case round =>
    obtain ⟨k, ys, hk, rfl, hyl, hyp, hbw, hh0, hh1⟩ := hrel
    have HYL := Lib.hid hyl; have HYP := Lib.hid hyp
    rcases Nat.lt_or_ge k n with c1 | c1
    · obtain ⟨u, rfl, hBu, hzu, z0, o0, z1, o1⟩ := after2 (w := w) (W := wr) (w1 := wr) (Below.refl _ _) hbw hh0 hh1
      have c2 : (k : Int) < n := by omega
      have g1 := placeCells_get (ys := ys) (j := k) (by rw [hyl]; omega)
      clear hyl hyp hbw hh0 hh1
      go_wp2_with fail
      go_roundw
      case rel => exact ⟨k + 1, ys.set k k, by omega, by go_num, by simp [HYL.out], fun p hp => by
        by_cases e : p = k
        · subst e; exact getD_set_self (by rw [HYL.out]; exact c1)
        · rw [getD_set_other e]; exact HYP.out p (by omega), by (repeat' (first | (with_reducible exact Below.refl _ _) | (with_reducible assumption) | (with_reducible refine below_from_drew ?_) | (with_reducible refine Below.alloc ?_ ?_ _) | (with_reducible refine Below.drew ?_) | (with_reducible refine below_drewN ?_ _) | (with_reducible refine Below.setCell ?_ ?_ _) | (with_reducible refine below_via ?_ (by assumption) ?_) | (with_reducible refine below_ov ?_ ?_ _ _) | go_size)), by (repeat' (first | (with_reducible refine has_drew ?_) | (with_reducible refine has_drewN ?_) | (with_reducible refine has_new ?_; (first | (with_reducible rfl) | omega | (simp; done) | (simp; omega))) | (with_reducible refine has_ov_same ?_; (first | (with_reducible rfl) | omega | (simp; done) | (simp; omega))) | (with_reducible refine has_alloc ?_) | (with_reducible refine has_ov_other ?_ ?_; (focus (first | (with_reducible rfl) | omega | (simp; done) | (simp; omega)))) | (with_reducible assumption))), by rw [placeCells_set]; (repeat' (first | (with_reducible refine has_drew ?_) | (with_reducible refine has_drewN ?_) | (with_reducible refine has_new ?_; (first | (with_reducible rfl) | omega | (simp; done) | (simp; omega))) | (with_reducible refine has_ov_same ?_; (first | (with_reducible rfl) | omega | (simp; done) | (simp; omega))) | (with_reducible refine has_alloc ?_) | (with_reducible refine has_ov_other ?_ ?_; (focus (first | (with_reducible rfl) | omega | (simp; done) | (simp; omega)))) | (with_reducible assumption)))⟩
      case measure => simp [intOf]; omega
    · obtain rfl : k = n := by omega
      have c2 : decide ((k : Int) < k) = false := by simp
      have hs := sort_all w.heap.size (w.heap.size + 1) k cap a os ys 3 22 wr HON.out h60 (fun h0 => by
        obtain ⟨b, off, h1, h2, h3⟩ := HR.out h0
        exact ⟨b, off, h1, Nat.lt_of_lt_of_le h2 hbw.size, fun i hi => (hbw.cell (p := ⟨b, off + i, none⟩) h2).trans (h3 i hi)⟩) (fun h0 b off e => by
        obtain ⟨b', off', h1, h2, h3⟩ := HR.out (by rw [HON.out]; exact h0)
        rw [e] at h1; cases h1; omega) hh0 (by omega) hh1 hyl hyp
      have HS := Lib.hid hs
      have HH1 := Lib.hid hh1; have HBW := Lib.hid hbw
      have l1 := hh1.lt
      clear hyl hyp hbw hh0 hh1 hs
      go_wp2_with fail
      refine HS.out.mono ?_
      rintro e w1 ⟨rfl, zs, hzl, hu, hin, hl⟩
      have HZ := Lib.hid hzl; have HU := Lib.hid hu; have HIN := Lib.hid hin; have HG1 := Lib.hid hl.1
      have HB2 : Hid (Below w.heap.size w w1) := Lib.hid (by
        obtain ⟨u, hu, rfl⟩ := hl.2.2.2.apart HH1.out hl.1
        exact below_ov (below_via HBW.out hu HBW.out.size) (by omega) _ _)
      clear hzl hu hin hl
      go_wp2_with fail
      go_ret
      exact ⟨_, zs, rfl, HZ.out, HU.out, HIN.out, HG1.out, HB2.out⟩
end Go.Proofs.Ytgelkmpmificpaa
