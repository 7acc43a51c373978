/- flexline.Lines. -/
import Derived.Test.YtgelkmpmificpaaRow
import Derived.Test.YtgelkmpmificpaaFix
import Derived.Test.YtgelkmpmificpaaBigA
import Derived.LoopTactic
import Derived.Deep.DeepCutAuto
namespace Go.Proofs.Ytgelkmpmificpaa
open Go.RowKit
set_option linter.unusedSimpArgs false
set_option linter.unusedVariables false
-- below_from_drew
attribute [local go_sem] ov_cell_same ov_cell_other ov_frozen_same ov_frozen_other ov_size ov_setCell_same ov_setCell_other cell_alloc_old frozen_alloc_old setCell_alloc_old old_alloc old_ov old_drew old_drewN old_setCell
attribute [local go_sem ↓] run_max2 run_min2

/-- The lines from an item on: begun at fr, as long as s so far. -/
def linesF (av gap : Int) : Nat → Int → Nat → List Int → Option (List (Nat × Nat))
  | fr, _, i, [] => some [(fr, i)]
  | fr, s, i, n :: r =>
    if i = fr then (match ofF n with | none => none | some m => linesF av gap fr m (i + 1) r)
    else match addF 0 [s, gap, n] with
      | none => none
      | some more => if av < more then (match ofF n with | none => none | some m => (linesF av gap i m (i + 1) r).map ((fr, i) :: ·)) else linesF av gap fr more (i + 1) r
def cells2 (L : List (Nat × Nat)) : List Value := L.flatMap fun p => [.int .i64 (p.1 : Int), .int .i64 (p.2 : Int)]
theorem cells2_snoc (L : List (Nat × Nat)) (a b : Nat) : cells2 (L ++ [(a, b)]) = cells2 L ++ [.int .i64 (a : Int), .int .i64 (b : Int)] := by simp [cells2]
theorem infoP2 : (Try.prog.info? 130).map (fun i => (i.zero, i.size, i.bytes)) = some (some (.agg #[.int .i64 0, .int .i64 0]), 2, 16) := by kernel_rfl
/-- The lines, or it gives up. -/
def LinesR (w : World) (o : Option (List (Nat × Nat))) (e : Ending) (w' : World) : Prop :=
  Below w.heap.size w w' ∧ ((∃ L v, o = some L ∧ e = .returned v ∧ w'.ownsRow w.heap.size 130 2 v L.length (cells2 L)) ∨ (o = none ∧ e = .panicked (gave 2)))
theorem row_reads2 {w : World} {base n : Nat} {e : TypeId} {v : Value} {xs : List Value} (h : w.ownsRow base e 2 v n xs) : ∃ a cap, v = .slice a n cap := by
  obtain ⟨a, cap, hv, _⟩ := row_reads h
  exact ⟨a, cap, hv⟩
set_option maxRecDepth 100000 in
set_option maxHeartbeats 4000000 in
theorem lines_any (b off cap : Nat) (xs : List Int) (av gap : Int) (w : World) (hn : 0 < xs.length) (hm : xs.length ≤ 1000000) (hb0 : b < w.heap.size) (hcap : xs.length ≤ cap) (hr : ∀ i, i < xs.length → w.cell? ⟨b, off + i, none⟩ = some (.int .i64 (xs.getD i 0))) :
    Calls Try.prog 86 #[.slice (some ⟨b, off, none⟩) xs.length cap, .int .i64 av, .int .i64 gap, .bool true] w (LinesR w (linesF av gap 0 0 0 xs)) := by
  obtain ⟨i0, hi, hz0, hz1, hz2⟩ := info_parts infoP2
  have HR := Lib.hid hr; clear hr
  generalize hlen : xs.length = n at *
  have HN := Lib.hid hlen; clear hlen
  have n1 : ((n : Int) == 0) = false := by simp; omega
  have n2 : (n : Int) ≤ 1000000 := by omega
  go_enter Try.func86, Try.ntmps86
  go_wp2_with fail
  go_loopw [9, 10, 11, 26] (fun out fr s i wr => ∃ (k f : Nat) (sm : Int) (done : List (Nat × Nat)), k ≤ n ∧ f ≤ k ∧ done.length ≤ k ∧ wr.ownsRow w.heap.size 130 2 out done.length (cells2 done) ∧ fr = .int .i64 (f : Int) ∧ s = .int .i64 sm ∧ i = .int .i64 (k : Int) ∧ linesF av gap 0 0 0 xs = (linesF av gap f sm k (xs.drop k)).map (done ++ ·) ∧ Below w.heap.size w wr) (fun _ _ _ i _ => n - (intOf i).toNat)
  case atStart => exact ⟨0, 0, 0, [], by omega, by omega, by simp, World.ownsRow_nil _ _ _ _, rfl, rfl, rfl, by simp, by (repeat' (first | (with_reducible exact Below.refl _ _) | (with_reducible assumption) | (with_reducible refine below_from_drew ?_) | (with_reducible refine Below.alloc ?_ ?_ _) | (with_reducible refine Below.drew ?_) | (with_reducible refine below_drewN ?_ _) | (with_reducible refine Below.setCell ?_ ?_ _) | (with_reducible refine below_via ?_ (by assumption) ?_) | (with_reducible refine below_ov ?_ ?_ _ _) | go_size))⟩
  case round =>
    obtain ⟨k, f, sm, done, hk, hfk, hdl, hown, rfl, rfl, rfl, heq, hbw⟩ := hrel
    obtain ⟨al, ca, rfl⟩ := row_reads2 hown
    have hszw := hbw.size
    have HOWN := Lib.hid hown; have HEQ := Lib.hid heq; have HBW := Lib.hid hbw
    clear hown heq
    have hbl : b < wr.heap.size := by omega
    rcases Nat.lt_or_ge k n with c1 | c1
    · have hdr := drop_cons (xs := xs) (k := k) (by rw [HN.out]; exact c1)
      have hc := (hbw.cell (p := ⟨b, off + k, none⟩) hb0).trans (HR.out k c1)
      have c2 : (k : Int) < n := by omega
      generalize xs.getD k 0 = x at *
      have HDR := Lib.hid hdr; clear hdr
      rcases Nat.eq_or_lt_of_le hfk with rfl | hlt
      · have e1 : ((f : Int) == (f : Int)) = true := by simp
        rcases ho : ofF x with _ | m
        · have HO := Lib.hid ho; clear ho
          go_wp2_with fail
          refine (of_no' HO.out _).mono ?_
          rintro e w1 ⟨rfl, rfl⟩
          exact ⟨rfl, HBW.out, .inr ⟨by rw [HEQ.out, HDR.out]; simp [linesF, HO.out], rfl⟩⟩
        · have HO := Lib.hid ho; clear ho
          go_wp2_with fail
          refine (of_ok' HO.out _).mono ?_
          rintro e w1 ⟨rfl, rfl⟩
          go_wp2_with fail
          go_roundw
          case rel => exact ⟨f + 1, f, m, done, by omega, by omega, by omega, HOWN.out, rfl, rfl, by go_num, by rw [HEQ.out, HDR.out]; simp [linesF, HO.out], HBW.out⟩
          case measure => simp [intOf]; omega
      · have e1 : ((k : Int) == (f : Int)) = false := by simp; omega
        have hne : ¬ k = f := by omega
        have HNE := Lib.hid hne; clear hne
        go_wp2_with fail
        refine (add_any _ 3 3 [sm, gap, x] _ rfl (by (intro i hi; rcases i with _ | _ | _ | _ | _ | _ | _ | _ | i <;> first | (simp; done) | (go_simp; done) | (simp at hi; done) | omega)) (by omega)).mono ?_
        rintro e w1 ⟨⟨more, hadd, rfl⟩ | ⟨hadd, rfl⟩, rfl⟩
        rotate_left
        · exact ⟨rfl, by have q := HBW.out; (repeat' (first | (with_reducible exact Below.refl _ _) | (with_reducible assumption) | (with_reducible refine below_from_drew ?_) | (with_reducible refine Below.alloc ?_ ?_ _) | (with_reducible refine Below.drew ?_) | (with_reducible refine below_drewN ?_ _) | (with_reducible refine Below.setCell ?_ ?_ _) | (with_reducible refine below_via ?_ (by assumption) ?_) | (with_reducible refine below_ov ?_ ?_ _ _) | go_size)), .inr ⟨by rw [HEQ.out, HDR.out]; simp [linesF, HNE.out, hadd], rfl⟩⟩
        have HADD := Lib.hid hadd; clear hadd
        rcases Int.lt_or_le av more with c3 | c3
        · rcases ho : ofF x with _ | m
          · have HO := Lib.hid ho; clear ho
            go_wp2_with (at_builtin; refine wpList_append_own _ rfl _ _ 126 rfl w.heap.size 130 i0 (.agg #[.int .i64 0, .int .i64 0]) 2 16 Try.underlying126 hi hz0 hz1 hz2 rfl (by decide) _ _ _ rfl ((HOWN.out.alloc _).alloc _) ⟨wr.heap.size + 1, 0, none⟩ 1 1 [.int .i64 ((f : Int)), .int .i64 ((k : Int))] rfl rfl ?p1 ?p2 ?p3 ?p4 ?p5 ?_)
            case p1 => exact news_at (by simp)
            case p2 => exact one_of rfl
            case p3 => unfold maxLen; omega
            case p4 => omega
            case p5 => simp; omega
            intro v' w1 hown' hgrow hnil
            clear hnil
            have hB1 : Below w.heap.size w w1 := Below.grown (by have q := HBW.out; (repeat' (first | (with_reducible exact Below.refl _ _) | (with_reducible assumption) | (with_reducible refine below_from_drew ?_) | (with_reducible refine Below.alloc ?_ ?_ _) | (with_reducible refine Below.drew ?_) | (with_reducible refine below_drewN ?_ _) | (with_reducible refine Below.setCell ?_ ?_ _) | (with_reducible refine below_via ?_ (by assumption) ?_) | (with_reducible refine below_ov ?_ ?_ _ _) | go_size))) hgrow (by simp; omega) (fun bb h => by have := row_block HOWN.out bb h; omega)
            clear hown' hgrow
            go_wp2_with fail
            refine (of_no' HO.out _).mono ?_
            rintro e w2 ⟨rfl, rfl⟩
            exact ⟨rfl, hB1, .inr ⟨by rw [HEQ.out, HDR.out]; simp [linesF, HNE.out, HADD.out, c3, HO.out], rfl⟩⟩
          · have HO := Lib.hid ho; clear ho
            go_wp2_with (at_builtin; refine wpList_append_own _ rfl _ _ 126 rfl w.heap.size 130 i0 (.agg #[.int .i64 0, .int .i64 0]) 2 16 Try.underlying126 hi hz0 hz1 hz2 rfl (by decide) _ _ _ rfl ((HOWN.out.alloc _).alloc _) ⟨wr.heap.size + 1, 0, none⟩ 1 1 [.int .i64 ((f : Int)), .int .i64 ((k : Int))] rfl rfl ?q1 ?q2 ?q3 ?q4 ?q5 ?_)
            case q1 => exact news_at (by simp)
            case q2 => exact one_of rfl
            case q3 => unfold maxLen; omega
            case q4 => omega
            case q5 => simp; omega
            intro v' w1 hown' hgrow hnil
            clear hnil
            have hB1 : Below w.heap.size w w1 := Below.grown (by have q := HBW.out; (repeat' (first | (with_reducible exact Below.refl _ _) | (with_reducible assumption) | (with_reducible refine below_from_drew ?_) | (with_reducible refine Below.alloc ?_ ?_ _) | (with_reducible refine Below.drew ?_) | (with_reducible refine below_drewN ?_ _) | (with_reducible refine Below.setCell ?_ ?_ _) | (with_reducible refine below_via ?_ (by assumption) ?_) | (with_reducible refine below_ov ?_ ?_ _ _) | go_size))) hgrow (by simp; omega) (fun bb h => by have := row_block HOWN.out bb h; omega)
            have HO1 := Lib.hid hown'
            have HB1 := Lib.hid hB1
            clear hown' hgrow hB1
            go_wp2_with fail
            refine (of_ok' HO.out _).mono ?_
            rintro e w2 ⟨rfl, rfl⟩
            go_wp2_with fail
            go_roundw
            case rel => exact ⟨k + 1, k, m, done ++ [(f, k)], by omega, by omega, by simp; omega, by rw [List.length_append, cells2_snoc]; exact HO1.out, rfl, rfl, by go_num, by rw [HEQ.out, HDR.out]; simp [linesF, HNE.out, HADD.out, c3, HO.out]; cases linesF av gap k m (k + 1) (List.drop (k + 1) xs) <;> simp, HB1.out⟩
            case measure => simp [intOf]; omega
        · go_wp2_with fail
          go_roundw
          case rel => exact ⟨k + 1, f, more, done, by omega, by omega, by omega, HOWN.out.alloc _, rfl, rfl, by go_num, by rw [HEQ.out, HDR.out]; simp [linesF, HNE.out, HADD.out, Int.not_lt.2 c3], by have q := HBW.out; (repeat' (first | (with_reducible exact Below.refl _ _) | (with_reducible assumption) | (with_reducible refine below_from_drew ?_) | (with_reducible refine Below.alloc ?_ ?_ _) | (with_reducible refine Below.drew ?_) | (with_reducible refine below_drewN ?_ _) | (with_reducible refine Below.setCell ?_ ?_ _) | (with_reducible refine below_via ?_ (by assumption) ?_) | (with_reducible refine below_ov ?_ ?_ _ _) | go_size))⟩
          case measure => simp [intOf]; omega
    · have c2 : (n : Int) ≤ k := by omega
      obtain rfl : k = n := by omega
      have hnil0 : xs.drop k = [] := List.drop_eq_nil_of_le (by rw [HN.out]; omega)
      have HNIL := Lib.hid hnil0; clear hnil0
      go_wp2_with (at_builtin; refine wpList_append_own _ rfl _ _ 126 rfl w.heap.size 130 i0 (.agg #[.int .i64 0, .int .i64 0]) 2 16 Try.underlying126 hi hz0 hz1 hz2 rfl (by decide) _ _ _ rfl (HOWN.out.alloc _) ⟨wr.heap.size, 0, none⟩ 1 1 [.int .i64 ((f : Int)), .int .i64 ((k : Int))] rfl rfl ?r1 ?r2 ?r3 ?r4 ?r5 ?_)
      case r1 => exact news_at (by simp)
      case r2 => exact one_of rfl
      case r3 => unfold maxLen; omega
      case r4 => omega
      case r5 => simp; omega
      intro v' w1 hown' hgrow hnil
      clear hnil
      have hB1 : Below w.heap.size w w1 := Below.grown (by have q := HBW.out; (repeat' (first | (with_reducible exact Below.refl _ _) | (with_reducible assumption) | (with_reducible refine below_from_drew ?_) | (with_reducible refine Below.alloc ?_ ?_ _) | (with_reducible refine Below.drew ?_) | (with_reducible refine below_drewN ?_ _) | (with_reducible refine Below.setCell ?_ ?_ _) | (with_reducible refine below_via ?_ (by assumption) ?_) | (with_reducible refine below_ov ?_ ?_ _ _) | go_size))) hgrow (by simp; omega) (fun bb h => by have := row_block HOWN.out bb h; omega)
      have HO1 := Lib.hid hown'
      have HB1 := Lib.hid hB1
      clear hown' hgrow hB1
      go_wp2_with fail
      go_ret
      exact ⟨HB1.out, .inl ⟨done ++ [(f, k)], _, by rw [HEQ.out, HNIL.out]; simp [linesF], rfl, by rw [List.length_append, cells2_snoc]; exact HO1.out⟩⟩
end Go.Proofs.Ytgelkmpmificpaa
