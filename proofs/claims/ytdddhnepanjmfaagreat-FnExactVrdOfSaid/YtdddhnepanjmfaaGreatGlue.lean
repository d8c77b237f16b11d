/- Slices of bounds and of sums: copied, compared, measured, searched. No condition. -/
import Derived.Test.YtdddhnepanjmfaaGreatPrgOkI
namespace Go.Proofs.YtdddhnepanjmfaaGreat
open Go.RowKit Go.ChangeShapes Go.WideShapes Go.Deep
set_option linter.unusedVariables false
attribute [local go_sem] ext_cell ext_frozen ext_lt ext_le ext_le1 lt_s2 lt_s3 lt_s4 lt_s5 lt_s6 ext_lt1 ext_lt2 ext_lt3

/-- Bounds. -/
structure Itv where
  lo : Int
  hi : Int
  deriving DecidableEq
/-- A sum. -/
structure Sum where
  on : Bool
  lo : Int
  hi : Int
  deriving DecidableEq
abbrev Itv.v (x : Itv) : Value := .agg #[.int .i64 x.lo, .int .i64 x.hi]
abbrev Sum.v (x : Sum) : Value := .agg #[.bool x.on, .int .i64 x.lo, .int .i64 x.hi]
structure ItvWf (x : Itv) : Prop where
  lo : I64 x.lo
  hi : I64 x.hi
structure SumWf (x : Sum) : Prop where
  lo : I64 x.lo
  hi : I64 x.hi

def Itv.cells (x : Itv) : List Value := [.int .i64 x.lo, .int .i64 x.hi]
def EItv : World → List Value → Itv → Prop := fun _ cs x => cs = x.cells
theorem staysItv : Stays EItv := fun _ _ _ _ _ h => h
theorem itv_len (x : Itv) : x.cells.length = 2 := rfl
theorem rdItv_at {w : World} {a : Option Addr} {n : Nat} {xs : List Itv} (h : RdL EItv 2 w a n xs) {k : Nat} (hk : k < n) : ∃ b off lo hi, a = some ⟨b, off, none⟩ ∧ xs[k]? = some ⟨lo, hi⟩ ∧
    w.cell? ⟨b, off + k * 2, none⟩ = some (.int .i64 lo) ∧ w.cell? ⟨b, off + k * 2 + 1, none⟩ = some (.int .i64 hi) ∧ b < w.heap.size := by
  obtain ⟨b, off, ⟨lo, hi⟩, cs, rfl, hx, _, hc, rfl⟩ := h.at_ hk
  exact ⟨b, off, lo, hi, rfl, hx, hc 0 _ rfl, hc 1 _ rfl, h.lt (by omega) rfl⟩
theorem itvInfo : (Tryz.prog.info? 98).map (fun i => (i.zero, i.size, i.bytes)) = some (some (.agg #[.int .i64 0, .int .i64 0]), 2, 16) := by kernel_rfl
theorem rdItv_of_own {w : World} {B n cap : Nat} {a : Option Addr} {xs : List Itv} (hn : xs.length = n) (h : w.ownsRow B 98 2 (.slice a n cap) n (xs.flatMap Itv.cells)) : RdL EItv 2 w a n xs :=
  rdl_of_rd Itv.cells (by omega) itv_len hn (owns_rd h) (fun x _ => rfl)

def Sum.cells (x : Sum) : List Value := [.bool x.on, .int .i64 x.lo, .int .i64 x.hi]
def ESum : World → List Value → Sum → Prop := fun _ cs x => cs = x.cells
theorem staysSum : Stays ESum := fun _ _ _ _ _ h => h
theorem sum_len (x : Sum) : x.cells.length = 3 := rfl
theorem rdSum_at {w : World} {a : Option Addr} {n : Nat} {xs : List Sum} (h : RdL ESum 3 w a n xs) {k : Nat} (hk : k < n) : ∃ b off on lo hi, a = some ⟨b, off, none⟩ ∧ xs[k]? = some ⟨on, lo, hi⟩ ∧
    w.cell? ⟨b, off + k * 3, none⟩ = some (.bool on) ∧ w.cell? ⟨b, off + k * 3 + 1, none⟩ = some (.int .i64 lo) ∧ w.cell? ⟨b, off + k * 3 + 2, none⟩ = some (.int .i64 hi) ∧ b < w.heap.size := by
  obtain ⟨b, off, ⟨on, lo, hi⟩, cs, rfl, hx, _, hc, rfl⟩ := h.at_ hk
  exact ⟨b, off, on, lo, hi, rfl, hx, hc 0 _ rfl, hc 1 _ rfl, hc 2 _ rfl, h.lt (by omega) rfl⟩
theorem sumInfo : (Tryz.prog.info? 100).map (fun i => (i.zero, i.size, i.bytes)) = some (some (.agg #[.bool false, .int .i64 0, .int .i64 0]), 3, 24) := by kernel_rfl
theorem rdSum_of_own {w : World} {B n cap : Nat} {a : Option Addr} {xs : List Sum} (hn : xs.length = n) (h : w.ownsRow B 100 3 (.slice a n cap) n (xs.flatMap Sum.cells)) : RdL ESum 3 w a n xs :=
  rdl_of_rd Sum.cells (by omega) sum_len hn (owns_rd h) (fun x _ => rfl)

theorem toItvItv (x : Itv) (w : World) : Calls Tryz.prog 117 #[x.v] w fun e w' => e = .returned x.v ∧ Grew w w' := by
  obtain ⟨lo, hi⟩ := x
  go_enter Tryz.func117, Tryz.ntmps117
  go_wp2
  go_returns
  refine ⟨rfl, ?_⟩
  exact gr
set_option maxHeartbeats 1000000 in
theorem toSumSum (x : Sum) (w : World) : Calls Tryz.prog 85 #[x.v] w fun e w' => e = .returned x.v ∧ Grew w w' := by
  obtain ⟨on, lo, hi⟩ := x
  have C := Lib.hid (fun w => toItvItv ⟨lo, hi⟩ w)
  go_enter Tryz.func85, Tryz.ntmps85
  go_wp2_with ((with_reducible refine (C.out _).mono ?_); rintro e w' ⟨rfl, g'⟩; (first | obtain ⟨y, rfl⟩ := ext_cold g' | obtain ⟨y, rfl⟩ := ext_col g' | obtain ⟨y, rfl⟩ := ext_of g'); clear g')
  go_returns
  refine ⟨rfl, ?_⟩
  exact gr
def itvEqB (x y : Itv) : Bool := decide (x = y)
def sumEqB (x y : Sum) : Bool := decide (x = y)
theorem eqItvItv (x y : Itv) (w : World) : Calls Tryz.prog 145 #[x.v, y.v] w fun e w' => e = .returned (.bool (itvEqB x y)) ∧ Grew w w' := by
  obtain ⟨lo, hi⟩ := x
  obtain ⟨lo', hi'⟩ := y
  go_enter Tryz.func145, Tryz.ntmps145
  go_wp2
  all_goals
    go_ret
    refine ⟨by go_light; simp_all [itvEqB], ?_⟩
    exact gr
theorem eqSumSum (x y : Sum) (w : World) : Calls Tryz.prog 109 #[x.v, y.v] w fun e w' => e = .returned (.bool (sumEqB x y)) ∧ Grew w w' := by
  obtain ⟨on, lo, hi⟩ := x
  obtain ⟨on', lo', hi'⟩ := y
  have C := fun w => eqItvItv ⟨lo, hi⟩ ⟨lo', hi'⟩ w
  obtain ⟨B, hB⟩ : ∃ B, itvEqB ⟨lo, hi⟩ ⟨lo', hi'⟩ = B := ⟨_, rfl⟩
  rw [hB] at C
  have HC := Lib.hid C; clear C
  have HB := Lib.hid hB; clear hB
  cases on <;> cases on' <;> cases B
  all_goals
    go_enter Tryz.func109, Tryz.ntmps109
    go_wp2_with ((with_reducible refine (HC.out _).mono ?_); rintro e w' ⟨rfl, g'⟩; (first | obtain ⟨y, rfl⟩ := ext_cold g' | obtain ⟨y, rfl⟩ := ext_col g' | obtain ⟨y, rfl⟩ := ext_of g'); clear g')
    go_ret
    refine ⟨by have := HB.out; go_light; simp_all [itvEqB, sumEqB], ?_⟩
    exact gr

set_option maxHeartbeats 2000000 in
theorem toSumSumS (a : Option Addr) (n cap : Nat) (xs : List Sum) (w : World) (hr : RdL ESum 3 w a n xs) (hm : n ≤ 1048576) :
    Calls Tryz.prog 49 #[.slice a n cap] w fun e w' => ∃ v, e = .returned v ∧ w'.ownsRow w.heap.size 100 3 v n (xs.flatMap Sum.cells) ∧ Grew w w' := by
  have hl := hr.len
  obtain ⟨i0, hi, hz0, hz1, hz2⟩ := info_parts sumInfo
  obtain ⟨w1, hmk, hown, hgr⟩ := run_make_full (P := Tryz.prog) w w.heap.size 56 100 i0 (.agg #[.bool false, .int .i64 0, .int .i64 0]) 3 Tryz.underlying56 hi hz0 hz1 .i64 .i64 n (by rw [hz2]; omega) (by unfold maxLen; omega) (Nat.le_refl _)
  have HB := Lib.hid (Below.of_grownBy hgr (Nat.le_refl _) (fun k e => nomatch e)); clear hgr
  have HR := Lib.hid hr; clear hr
  have HL := Lib.hid hl; clear hl
  have HO := Lib.hid hown; clear hown
  clear hi hz0 hz1 hz2
  go_enter Tryz.func49, Tryz.ntmps49
  go_wp2
  clear hmk
  go_loopw [4] (fun i wr => ∃ k : Nat, k ≤ n ∧ i = .int .i64 k ∧ Grew w wr ∧ ∃ ys, wr.ownsRow w.heap.size 100 3 (.slice (some ⟨w.heap.size, 0, none⟩) n n) n ys ∧ ∀ j, j < (xs.take k).length * 3 → ys[j]? = ((xs.take k).flatMap Sum.cells)[j]?) (fun i _ => n - (intOf i).toNat)
  case atStart => exact ⟨0, Nat.zero_le _, rfl, HB.out, _, HO.out, fun j hj => absurd hj (by simp)⟩
  case round =>
    obtain ⟨k, hk, rfl, hg, ys, how, hys⟩ := hrel
    by_cases hlt : k < n
    · obtain ⟨b, off, on, lo, hi, rfl, hx, c0, c1, c2, hb⟩ := rdSum_at (HR.out.grew staysSum hg) hlt
      have HX := Lib.hid hx; clear hx
      have HH := Lib.hid hys; clear hys
      have HG := Lib.hid hg; clear hg
      have HW := Lib.hid how; clear how
      go_wp2_with fail
      ((with_reducible refine (toSumSum ⟨on, lo, hi⟩ _).mono ?_); rintro e w2 ⟨rfl, g2⟩)
      have HW2 := Lib.hid (owns_grew HW.out g2)
      obtain ⟨y0, e0⟩ := own_some HW2.out (j := k * 3) (by omega)
      obtain ⟨y1, e1⟩ := own_some HW2.out (j := k * 3 + 1) (by omega)
      obtain ⟨y2, e2⟩ := own_some HW2.out (j := k * 3 + 2) (by omega)
      have f0 := fun j => HW2.out.frozenAt j
      have G2 := Lib.hid (grew_tr HG.out g2); clear g2
      clear c0 c1 c2
      go_wp2
      go_roundw
      case rel =>
        obtain ⟨ho', hg'⟩ := own_sets (Sum.cells ⟨on, lo, hi⟩) _ _ (k * 3) HW2.out
        have hkl : (xs.take k).length = k := by rw [List.length_take]; have := HL.out; omega
        have hst := pre_step (f := Sum.cells) sum_len ⟨on, lo, hi⟩ HW2.out.1 (by rw [hkl]; omega) HH.out
        rw [hkl, ← take_get HX.out] at hst
        exact ⟨k + 1, by omega, by go_num, G2.out.grown hg' G2.out.size (fun j hj => by obtain rfl := Option.some.inj hj; exact Nat.le_refl _), _, ho', hst⟩
      case measure => simp [intOf]; omega
    · have hfin : ys = xs.flatMap Sum.cells := by
        have h2 := HL.out
        rw [List.take_of_length_le (by omega)] at hys
        exact pre_all sum_len how.1 h2 hys
      subst hfin
      clear hys
      have HO := Lib.hid how; clear how
      have HG := Lib.hid hg; clear hg
      go_wp2
      go_ret
      exact ⟨_, rfl, HO.out, HG.out⟩

set_option maxHeartbeats 1000000 in
theorem eqSumSumS (a a' : Option Addr) (n n' cap cap' : Nat) (xs ys : List Sum) (w : World) (hr : RdL ESum 3 w a n xs) (hr' : RdL ESum 3 w a' n' ys) (hn : n ≤ 9223372036854775807) (hn' : n' ≤ 9223372036854775807) :
    Calls Tryz.prog 64 #[.slice a n cap, .slice a' n' cap'] w fun e w' => e = .returned (.bool (decide (xs = ys))) ∧ Grew w w' := by
  have HL := Lib.hid hr.len
  have HL' := Lib.hid hr'.len
  have HR := Lib.hid hr; clear hr
  have HR' := Lib.hid hr'; clear hr'
  by_cases hnn : n = n'
  · subst hnn
    go_enter Tryz.func64, Tryz.ntmps64
    go_wp2
    go_loopw [5] (fun i wr => ∃ k : Nat, k ≤ n ∧ i = .int .i64 k ∧ Grew w wr ∧ xs.take k = ys.take k) (fun i _ => n - (intOf i).toNat)
    case atStart => exact ⟨0, Nat.zero_le _, rfl, Below.refl _ _, by simp⟩
    case round =>
      obtain ⟨k, hk, rfl, hg, he⟩ := hrel
      have HE := Lib.hid he; clear he
      by_cases hlt : k < n
      · obtain ⟨b, off, on, lo, hi, rfl, hx, c0, c1, c2, hb⟩ := rdSum_at (HR.out.grew staysSum hg) hlt
        obtain ⟨b', off', on', lo', hi', rfl, hx', c0', c1', c2', hb'⟩ := rdSum_at (HR'.out.grew staysSum hg) hlt
        have HX := Lib.hid hx; clear hx
        have HX' := Lib.hid hx'; clear hx'
        have HG := Lib.hid hg; clear hg
        have C := fun w => eqSumSum ⟨on, lo, hi⟩ ⟨on', lo', hi'⟩ w
        cases hq : sumEqB ⟨on, lo, hi⟩ ⟨on', lo', hi'⟩
        · have hfin : decide (xs = ys) = false := decide_eq_false (fun e => by
            have h1 := HX.out
            rw [e, HX'.out] at h1
            have := Option.some.inj h1
            rw [this] at hq
            simp [sumEqB] at hq)
          have HF := Lib.hid hfin; clear hfin
          rw [hq] at C
          have HC := Lib.hid C; clear C hq
          go_wp2_with fail
          first | refine wp_region_ext2 (by kernel_rfl) (by kernel_rfl) ?_ | refine wp_region_ext (by kernel_rfl) (by kernel_rfl) ?_
          repeat (go_big_quiet_step ((first | (with_reducible exact ext_grow (HC.out _)))))
          refine wpQuiet_nil ?_
          intro _ hw'
          obtain ⟨x, hw''⟩ := hw'
          subst hw''
          go_wp2
          go_ret
          exact ⟨by rw [HF.out]; rfl, grew_ext HG.out x⟩
        · have HQ := Lib.hid (of_decide_eq_true hq)
          rw [hq] at C
          have HC := Lib.hid C; clear C hq
          go_wp2_with fail
          first | refine wp_region_ext2 (by kernel_rfl) (by kernel_rfl) ?_ | refine wp_region_ext (by kernel_rfl) (by kernel_rfl) ?_
          repeat (go_big_quiet_step ((first | (with_reducible exact ext_grow (HC.out _)))))
          refine wpQuiet_nil ?_
          intro _ hw'
          obtain ⟨x, hw''⟩ := hw'
          subst hw''
          go_wp2
          go_roundw
          case rel => exact ⟨k + 1, by omega, by go_num, grew_ext HG.out x, by rw [take_get HX.out, take_get HX'.out, HE.out, HQ.out]⟩
          case measure => simp [intOf]; omega
      · have HG := Lib.hid hg; clear hg
        have : xs = ys := by
          have h := HE.out
          rwa [List.take_of_length_le (by have := HL.out; omega), List.take_of_length_le (by have := HL'.out; omega)] at h
        have HF := Lib.hid (decide_eq_true this); clear this
        go_wp2
        go_ret
        exact ⟨by rw [HF.out]; rfl, HG.out⟩
  · have hfin : decide (xs = ys) = false := decide_eq_false (fun e => by
      have h1 := HL.out
      rw [e, HL'.out] at h1
      exact hnn h1.symm)
    have hb : ((n : Int) != (n' : Int)) = true := by simp; omega
    have HF := Lib.hid hfin; clear hfin hnn
    go_enter Tryz.func64, Tryz.ntmps64
    go_wp2
    go_ret
    exact ⟨by rw [HF.out]; rfl, Below.refl _ _⟩

set_option maxHeartbeats 1000000 in
theorem eqItvItvS (a a' : Option Addr) (n n' cap cap' : Nat) (xs ys : List Itv) (w : World) (hr : RdL EItv 2 w a n xs) (hr' : RdL EItv 2 w a' n' ys) (hn : n ≤ 9223372036854775807) (hn' : n' ≤ 9223372036854775807) :
    Calls Tryz.prog 168 #[.slice a n cap, .slice a' n' cap'] w fun e w' => e = .returned (.bool (decide (xs = ys))) ∧ Grew w w' := by
  have HL := Lib.hid hr.len
  have HL' := Lib.hid hr'.len
  have HR := Lib.hid hr; clear hr
  have HR' := Lib.hid hr'; clear hr'
  by_cases hnn : n = n'
  · subst hnn
    go_enter Tryz.func168, Tryz.ntmps168
    go_wp2
    go_loopw [5] (fun i wr => ∃ k : Nat, k ≤ n ∧ i = .int .i64 k ∧ Grew w wr ∧ xs.take k = ys.take k) (fun i _ => n - (intOf i).toNat)
    case atStart => exact ⟨0, Nat.zero_le _, rfl, Below.refl _ _, by simp⟩
    case round =>
      obtain ⟨k, hk, rfl, hg, he⟩ := hrel
      have HE := Lib.hid he; clear he
      by_cases hlt : k < n
      · obtain ⟨b, off, lo, hi, rfl, hx, c0, c1, hb⟩ := rdItv_at (HR.out.grew staysItv hg) hlt
        obtain ⟨b', off', lo', hi', rfl, hx', c0', c1', hb'⟩ := rdItv_at (HR'.out.grew staysItv hg) hlt
        have HX := Lib.hid hx; clear hx
        have HX' := Lib.hid hx'; clear hx'
        have HG := Lib.hid hg; clear hg
        have C := fun w => eqItvItv ⟨lo, hi⟩ ⟨lo', hi'⟩ w
        cases hq : itvEqB ⟨lo, hi⟩ ⟨lo', hi'⟩
        · have hfin : decide (xs = ys) = false := decide_eq_false (fun e => by
            have h1 := HX.out
            rw [e, HX'.out] at h1
            have := Option.some.inj h1
            rw [this] at hq
            simp [itvEqB] at hq)
          have HF := Lib.hid hfin; clear hfin
          rw [hq] at C
          have HC := Lib.hid C; clear C hq
          go_wp2_with fail
          first | refine wp_region_ext2 (by kernel_rfl) (by kernel_rfl) ?_ | refine wp_region_ext (by kernel_rfl) (by kernel_rfl) ?_
          repeat (go_big_quiet_step ((first | (with_reducible exact ext_grow (HC.out _)))))
          refine wpQuiet_nil ?_
          intro _ hw'
          obtain ⟨x, hw''⟩ := hw'
          subst hw''
          go_wp2
          go_ret
          exact ⟨by rw [HF.out]; rfl, grew_ext HG.out x⟩
        · have HQ := Lib.hid (of_decide_eq_true hq)
          rw [hq] at C
          have HC := Lib.hid C; clear C hq
          go_wp2_with fail
          first | refine wp_region_ext2 (by kernel_rfl) (by kernel_rfl) ?_ | refine wp_region_ext (by kernel_rfl) (by kernel_rfl) ?_
          repeat (go_big_quiet_step ((first | (with_reducible exact ext_grow (HC.out _)))))
          refine wpQuiet_nil ?_
          intro _ hw'
          obtain ⟨x, hw''⟩ := hw'
          subst hw''
          go_wp2
          go_roundw
          case rel => exact ⟨k + 1, by omega, by go_num, grew_ext HG.out x, by rw [take_get HX.out, take_get HX'.out, HE.out, HQ.out]⟩
          case measure => simp [intOf]; omega
      · have HG := Lib.hid hg; clear hg
        have : xs = ys := by
          have h := HE.out
          rwa [List.take_of_length_le (by have := HL.out; omega), List.take_of_length_le (by have := HL'.out; omega)] at h
        have HF := Lib.hid (decide_eq_true this); clear this
        go_wp2
        go_ret
        exact ⟨by rw [HF.out]; rfl, HG.out⟩
  · have hfin : decide (xs = ys) = false := decide_eq_false (fun e => by
      have h1 := HL.out
      rw [e, HL'.out] at h1
      exact hnn h1.symm)
    have hb : ((n : Int) != (n' : Int)) = true := by simp; omega
    have HF := Lib.hid hfin; clear hfin hnn
    go_enter Tryz.func168, Tryz.ntmps168
    go_wp2
    go_ret
    exact ⟨by rw [HF.out]; rfl, Below.refl _ _⟩

theorem szSumSumS (a : Option Addr) (n cap : Nat) (left : Int) (w : World) (h0 : 0 ≤ left) (h1 : left ≤ 1048576) (hn : n ≤ 9223372036854775807) :
    Calls Tryz.prog 38 #[.slice a n cap, .int .i64 left] w fun e w' => e = .returned (.int .i64 (if left < n then -1 else left - n)) ∧ w = w' := by
  by_cases h : left < n
  · have h2 : left - n < 0 := by omega
    rw [if_pos h]
    clear h
    go_enter Tryz.func38, Tryz.ntmps38
    go_wp2
    go_ret
    exact ⟨rfl, rfl⟩
  · have h2 : ¬ left - n < 0 := by omega
    have h3 : 0 ≤ left - n := by omega
    rw [if_neg h]
    clear h
    go_enter Tryz.func38, Tryz.ntmps38
    go_wp2
    go_ret
    exact ⟨rfl, rfl⟩

end Go.Proofs.YtdddhnepanjmfaaGreat