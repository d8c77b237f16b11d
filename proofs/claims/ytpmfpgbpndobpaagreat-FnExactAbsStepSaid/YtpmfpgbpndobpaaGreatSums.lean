/- SumsOk of the reference and of the program. No condition. -/
import Derived.Test.YtpmfpgbpndobpaaGreatGlue
namespace Go.Proofs.YtpmfpgbpndobpaaGreat
open Go.RowKit Go.ChangeShapes Go.WideShapes Go.Deep
set_option linter.unusedVariables false
attribute [local go_sem] ext_cell ext_frozen ext_lt ext_le ext_le1 lt_s2 lt_s3 lt_s4 lt_s5 lt_s6 ext_lt1 ext_lt2 ext_lt3

section
variable {H : Type} {enc : TypeId × Value → H} {w : World} {base : Nat} {spare : Nat → Bool} {held : Bool}
theorem trod_itv (n : Nat) (cs : List Value) (y : DataW H × List MemPlace) (h : DataW.trod enc Tryz.prog w base spare held n 68 cs = some y) : ∃ x, EItv w cs x ∧ ItvWf x := by
  obtain ⟨hl, m, hf⟩ := trod_fields Tryz.underlying68 (by kernel_rfl) (by kernel_rfl) h
  match cs, hl with
  | [c0, c1], _ =>
    obtain ⟨u0, x0, e0, t0⟩ := hf 0 _ rfl
    obtain ⟨u1, x1, e1, t1⟩ := hf 1 _ rfl
    obtain ⟨n0, h0, w0⟩ := trod_i64 t0
    obtain ⟨n1, h1, w1⟩ := trod_i64 t1
    simp only [List.getElem?_cons_zero, List.getElem?_cons_succ, Option.some.injEq, List.cons.injEq, and_true] at e0 e1 h0 h1
    subst h0 h1
    subst e0 e1
    exact ⟨⟨n0, n1⟩, rfl, ⟨w0, w1⟩⟩
set_option maxRecDepth 100000 in
theorem trod_sum (n : Nat) (cs : List Value) (y : DataW H × List MemPlace) (h : DataW.trod enc Tryz.prog w base spare held n 123 cs = some y) : ∃ x, ESum w cs x ∧ SumWf x := by
  obtain ⟨ys, m, _, _, hlen, hyl, hf⟩ := DataW.trod_struct Tryz.underlying123 h
  rw [show Tryz.prog.cellsOf 123 = 3 from by kernel_rfl] at hlen
  match cs, hlen with
  | [c0, c1, c2], _ =>
    have h0 := hf 0 _ rfl
    have h1 := hf 1 _ rfl
    have hy0 : ys[0]? = some (ys[0]'(by rw [hyl]; decide)) := List.getElem?_eq_getElem _
    have hy1 : ys[1]? = some (ys[1]'(by rw [hyl]; decide)) := List.getElem?_eq_getElem _
    rw [hy0] at h0
    rw [hy1] at h1
    obtain ⟨b, hb, _⟩ := DataW.trod_bool Tryz.underlying4 h0
    obtain ⟨⟨lo, hi⟩, hx, hw⟩ := trod_itv _ _ _ h1
    have hx1 : [c1, c2] = [.int .i64 lo, .int .i64 hi] := hx
    have hb1 : [c0] = [.bool b] := hb
    simp only [List.cons.injEq, and_true] at hx1 hb1
    obtain ⟨rfl, rfl⟩ := hx1
    subst hb1
    exact ⟨⟨b, lo, hi⟩, rfl, ⟨hw.lo, hw.hi⟩⟩
set_option maxRecDepth 100000 in
theorem open_sums {r : Reach} {b0 : Nat} {v : Value} {d : DataW H} {p : List MemPlace} (hv : Value.okWide Tryz.prog w r b0 65 v) (h : DataW.Trod enc Tryz.prog w base spare held 65 v d p) :
    ∃ (a : Option Addr) (n c : Nat) (xs : List Sum), v = .slice a n c ∧ RdL ESum 3 w a n xs ∧ (∀ x, x ∈ xs → SumWf x) ∧ n ≤ c ∧ c ≤ maxLen := by
  obtain ⟨a, n, c, rfl⟩ := okWide_slice Tryz.underlying65 hv
  obtain ⟨fuel, hf⟩ := trod_of_value h
  obtain ⟨a', n', c', xs, he, h1, h2, h3, h4⟩ := trod_rdl (E := ESum) SumWf Tryz.underlying65 (C := 3) (v := .slice a n c) (by kernel_rfl) (by omega) trod_sum hf
  exact ⟨a', n', c', xs, he, h1, h2, h3, h4⟩
end

theorem specItvOk (x : Itv) (w : World) : Calls Tryz.prog 48 #[x.v] w fun e w' => e = .returned (.bool (itvOkB x.lo x.hi)) ∧ Grew w w' := by
  obtain ⟨lo, hi⟩ := x
  go_enter Tryz.func48, Tryz.ntmps48
  go_wp2_with ((with_reducible refine (specNumOk _ _).mono ?_); rintro e w' ⟨rfl, rfl⟩)
  all_goals
    go_ret
    refine ⟨by go_light; simp_all [itvOkB] <;> omega, ?_⟩
    exact gr

theorem specL7None (x : Itv) (w : World) : Calls Tryz.prog 47 #[x.v] w fun e w' => e = .returned (.bool (decide (x.lo = 0) && decide (x.hi = 0))) ∧ Grew w w' := by
  obtain ⟨lo, hi⟩ := x
  go_enter Tryz.func47, Tryz.ntmps47
  go_wp2
  all_goals
    go_ret
    refine ⟨by go_light; by_cases h1 : lo = 0 <;> by_cases h2 : hi = 0 <;> simp_all, ?_⟩
    exact gr

/-- Whether a sum is ok. -/
def sumOkB (s : Sum) : Bool := if s.on then itvOkB s.lo s.hi else decide (s.lo = 0) && decide (s.hi = 0)
theorem specL7Sum (s : Sum) (w : World) : Calls Tryz.prog 46 #[s.v] w fun e w' => e = .returned (.bool (sumOkB s)) ∧ Grew w w' := by
  obtain ⟨on, lo, hi⟩ := s
  have C1 := Lib.hid (fun w => specL7None ⟨lo, hi⟩ w)
  have C2 := Lib.hid (fun w => specItvOk ⟨lo, hi⟩ w)
  cases on
  all_goals
    go_enter Tryz.func46, Tryz.ntmps46
    go_wp2_with (first | ((with_reducible refine (C1.out _).mono ?_); rintro e w' ⟨rfl, g'⟩; (first | obtain ⟨y, rfl⟩ := ext_cold g' | obtain ⟨y, rfl⟩ := ext_col g' | obtain ⟨y, rfl⟩ := ext_of g'); clear g') | ((with_reducible refine (C2.out _).mono ?_); rintro e w' ⟨rfl, g'⟩; (first | obtain ⟨y, rfl⟩ := ext_cold g' | obtain ⟨y, rfl⟩ := ext_col g' | obtain ⟨y, rfl⟩ := ext_of g'); clear g'))
    go_ret
    refine ⟨rfl, ?_⟩
    exact gr

/-- Whether sums are ok by a program. -/
def sumsOkB (ps : List Prc) (ss : List Sum) : Bool := prgOkB ps && decide (ss.length = ps.length) && ss.all sumOkB

set_option maxHeartbeats 1000000 in
theorem specSumsOk (a a' : Option Addr) (n n' cap cap' : Nat) (ps : List Prc) (ss : List Sum) (w : World) (hr : RdP w a n ps) (hr' : RdL ESum 3 w a' n' ss) (hn : n ≤ 9223372036854775807) (hn' : n' ≤ 9223372036854775807) :
    Calls Tryz.prog 8 #[.agg #[.slice a n cap], .slice a' n' cap'] w fun e w' => e = .returned (.bool (sumsOkB ps ss)) ∧ Grew w w' := by
  have HL := Lib.hid hr.len
  have HL' := Lib.hid hr'.len
  have C := fun W (h : Grew w W) => specPrgOk a n cap ps W (hr.grew h) hn
  have HR' := Lib.hid hr'; clear hr' hr
  cases hq : prgOkB ps
  · rw [hq] at C
    have HF : Hid (sumsOkB ps ss = false) := Lib.hid (by simp [sumsOkB, hq])
    have HC := Lib.hid C; clear C hq
    go_enter Tryz.func8, Tryz.ntmps8
    go_wp2_with ((with_reducible refine (HC.out _ (gr)).mono ?_); rintro e w' ⟨rfl, g'⟩; (first | obtain ⟨y, rfl⟩ := ext_cold g' | obtain ⟨y, rfl⟩ := ext_col g' | obtain ⟨y, rfl⟩ := ext_of g'); clear g')
    go_ret
    refine ⟨by rw [HF.out]; rfl, ?_⟩
    exact gr
  rw [hq] at C
  have HC := Lib.hid C; clear C
  by_cases hnn : n' = n
  · subst hnn
    have HH : Hid (sumsOkB ps ss = ss.all sumOkB) := Lib.hid (by
      have h1 := HL.out
      have h2 := HL'.out
      simp [sumsOkB, hq, h1, h2])
    clear hq
    go_enter Tryz.func8, Tryz.ntmps8
    go_wp2_with ((with_reducible refine (HC.out _ (gr)).mono ?_); rintro e w' ⟨rfl, g'⟩; (first | obtain ⟨y, rfl⟩ := ext_cold g' | obtain ⟨y, rfl⟩ := ext_col g' | obtain ⟨y, rfl⟩ := ext_of g'); clear g')
    go_loopw [5] (fun i wr => ∃ k : Nat, k ≤ n' ∧ i = .int .i64 k ∧ Grew w wr ∧ ∀ z, z ∈ ss.take k → sumOkB z = true) (fun i _ => n' - (intOf i).toNat)
    case atStart => exact ⟨0, Nat.zero_le _, rfl, gr, by simp⟩
    case round =>
      obtain ⟨k, hk, rfl, hg, hall⟩ := hrel
      have HA := Lib.hid hall; clear hall
      by_cases hlt : k < n'
      · obtain ⟨b, off, on, lo, hi, rfl, hx, c0, c1, c2, hb⟩ := rdSum_at (HR'.out.grew staysSum hg) hlt
        have HX := Lib.hid hx; clear hx
        have HG := Lib.hid hg; clear hg
        have C := fun w => specL7Sum ⟨on, lo, hi⟩ w
        cases hq : sumOkB ⟨on, lo, hi⟩
        · rw [hq] at C
          have HC := Lib.hid C; clear C
          have HQ := Lib.hid hq; clear hq
          go_wp2_with ((with_reducible refine (HC.out _).mono ?_); rintro e w' ⟨rfl, g'⟩; (first | obtain ⟨z, rfl⟩ := ext_cold g' | obtain ⟨z, rfl⟩ := ext_col g' | obtain ⟨z, rfl⟩ := ext_of g'); clear g')
          go_ret
          refine ⟨?_, grew_ext HG.out z⟩
          rw [HH.out]
          have : ss.all sumOkB = false := by
            rw [List.all_eq_false]
            exact ⟨_, List.mem_of_getElem? HX.out, by simp [HQ.out]⟩
          rw [this]
          rfl
        · rw [hq] at C
          have HC := Lib.hid C; clear C
          have HQ := Lib.hid hq; clear hq
          go_wp2_with ((with_reducible refine (HC.out _).mono ?_); rintro e w' ⟨rfl, g'⟩; (first | obtain ⟨z, rfl⟩ := ext_cold g' | obtain ⟨z, rfl⟩ := ext_col g' | obtain ⟨z, rfl⟩ := ext_of g'); clear g')
          go_roundw
          case rel =>
            refine ⟨k + 1, by omega, by go_num, grew_ext HG.out z, fun s hs => ?_⟩
            rw [take_get HX.out] at hs
            rcases List.mem_append.1 hs with hs | hs
            · exact HA.out s hs
            · obtain rfl := List.mem_singleton.1 hs
              exact HQ.out
          case measure => simp [intOf]; omega
      · have hall : ss.all sumOkB = true := by
          rw [List.all_eq_true]
          intro z hz
          exact HA.out z (by rw [List.take_of_length_le (by have := HL'.out; omega)]; exact hz)
        have HF := Lib.hid hall; clear hall
        have HG := Lib.hid hg; clear hg
        go_wp2
        go_ret
        exact ⟨by rw [HH.out, HF.out]; rfl, HG.out⟩
  · have HF : Hid (sumsOkB ps ss = false) := Lib.hid (by
      have h1 := HL.out
      have h2 := HL'.out
      simp [sumsOkB, h1, h2, hnn])
    have hb : ((n' : Int) != (n : Int)) = true := by simp; omega
    clear hnn hq
    go_enter Tryz.func8, Tryz.ntmps8
    go_wp2_with ((with_reducible refine (HC.out _ (gr)).mono ?_); rintro e w' ⟨rfl, g'⟩; (first | obtain ⟨y, rfl⟩ := ext_cold g' | obtain ⟨y, rfl⟩ := ext_col g' | obtain ⟨y, rfl⟩ := ext_of g'); clear g')
    go_ret
    refine ⟨by rw [HF.out]; rfl, ?_⟩
    exact gr

theorem sumEql (a1 b1 : Bool) (a2 a3 b2 b3 : Int) (w : World) :
    (binOp .eql 52 (.agg #[.bool a1, .int .i64 a2, .int .i64 a3]) (.agg #[.bool b1, .int .i64 b2, .int .i64 b3])).run Tryz.prog w = .ok (.bool (sumEqB ⟨a1, a2, a3⟩ ⟨b1, b2, b3⟩)) w := by
  unfold sumEqB
  cases a1 <;> cases b1
  all_goals
    by_cases h2 : a2 = b2
    · by_cases h3 : a3 = b3 <;> simp [go_sem, *]
    · simp [go_sem, *]
attribute [local go_sem ↓] sumEql

set_option maxHeartbeats 1000000 in
theorem implSumOk (s : Sum) (w : World) : Calls Tryz.prog 94 #[s.v] w fun e w' => e = .returned (.bool (sumOkB s)) ∧ Grew w w' := by
  obtain ⟨on, lo, hi⟩ := s
  cases on
  · have HV : Hid (sumOkB ⟨false, lo, hi⟩ = sumEqB ⟨false, lo, hi⟩ ⟨false, 0, 0⟩) := Lib.hid (by simp [sumOkB, sumEqB, Bool.decide_and])
    rw [HV.out]
    go_enter Tryz.func94, Tryz.ntmps94
    go_wp2
    all_goals
      go_ret
      refine ⟨rfl, ?_⟩
      exact gr
  · have C := fun w => itvOk lo hi w
    have HZ : Hid (sumEqB ⟨true, lo, hi⟩ ⟨false, 0, 0⟩ = false) := Lib.hid (by simp [sumEqB])
    have HV : Hid (sumOkB ⟨true, lo, hi⟩ = itvOkB lo hi) := Lib.hid rfl
    rw [HV.out]
    cases hB : itvOkB lo hi
    all_goals
      rw [hB] at C
      have HC := Lib.hid C
      clear C hB
      have hz := HZ.out
      go_enter Tryz.func94, Tryz.ntmps94
      go_wp2_with ((with_reducible refine (HC.out _).mono ?_); rintro e w' ⟨rfl, g'⟩; (first | obtain ⟨y, rfl⟩ := ext_cold g' | obtain ⟨y, rfl⟩ := ext_col g' | obtain ⟨y, rfl⟩ := ext_of g'); clear g')
      go_ret
      refine ⟨rfl, ?_⟩
      exact gr

theorem sumsOkF1 (s : Sum) (w : World) : Calls Tryz.prog 93 #[s.v] w fun e w' => e = .returned (.bool (!sumOkB s)) ∧ Grew w w' := by
  obtain ⟨on, lo, hi⟩ := s
  have C := fun w => implSumOk ⟨on, lo, hi⟩ w
  generalize sumOkB ⟨on, lo, hi⟩ = B at *
  have HC := Lib.hid C; clear C
  go_enter Tryz.func93, Tryz.ntmps93
  go_wp2_with ((with_reducible refine (HC.out _).mono ?_); rintro e w' ⟨rfl, g'⟩; (first | obtain ⟨y, rfl⟩ := ext_cold g' | obtain ⟨y, rfl⟩ := ext_col g' | obtain ⟨y, rfl⟩ := ext_of g'); clear g')
  go_ret
  refine ⟨rfl, ?_⟩
  exact gr

set_option maxHeartbeats 1000000 in
theorem indexFuncSum (a : Option Addr) (n cap : Nat) (xs : List Sum) (w : World) (hr : RdL ESum 3 w a n xs) (hn : n ≤ 9223372036854775807) :
    Calls Tryz.prog 127 #[.slice a n cap, .func (.func 93) #[] #[]] w (RetIdx (fun x => !sumOkB x) xs w) := by
  have HL := Lib.hid hr.len
  have HR := Lib.hid hr; clear hr
  go_enter Tryz.func127, Tryz.ntmps127
  go_wp2
  go_loopw [8] (fun i wr => ∃ k : Nat, k ≤ n ∧ i = .int .i64 k ∧ (∃ x, wr = ext w x) ∧ ∀ x, x ∈ xs.take k → sumOkB x = true) (fun i _ => n - (intOf i).toNat)
  case atStart => exact ⟨0, Nat.zero_le _, rfl, ext_of (Below.refl _ _), by simp⟩
  case round =>
    obtain ⟨k, hk, rfl, ⟨x, rfl⟩, hall⟩ := hrel
    have HA := Lib.hid hall; clear hall
    by_cases hlt : k < n
    · obtain ⟨b, off, on, lo, hi, rfl, hx, c0, c1, c2, hb⟩ := rdSum_at (HR.out.grew staysSum (ext_grew w x)) hlt
      have HX := Lib.hid hx; clear hx
      have C := fun w => sumsOkF1 ⟨on, lo, hi⟩ w
      cases hq : sumOkB ⟨on, lo, hi⟩
      · rw [hq] at C
        have HC := Lib.hid C; clear C
        have HQ := Lib.hid hq; clear hq
        go_wp2_with ((with_reducible refine (HC.out _).mono ?_); rintro e w' ⟨rfl, g'⟩; (first | obtain ⟨y, rfl⟩ := ext_cold g' | obtain ⟨y, rfl⟩ := ext_col g' | obtain ⟨y, rfl⟩ := ext_of g'); clear g')
        go_ret
        refine ⟨k, rfl, ?_, gr⟩
        rw [decide_eq_true (by omega), eq_comm, List.any_eq_true]
        exact ⟨_, List.mem_of_getElem? HX.out, by simp [HQ.out]⟩
      · rw [hq] at C
        have HC := Lib.hid C; clear C
        have HQ := Lib.hid hq; clear hq
        go_wp2_with ((with_reducible refine (HC.out _).mono ?_); rintro e w' ⟨rfl, g'⟩; (first | obtain ⟨y, rfl⟩ := ext_cold g' | obtain ⟨y, rfl⟩ := ext_col g' | obtain ⟨y, rfl⟩ := ext_of g'); clear g')
        go_roundw
        case rel =>
          refine ⟨k + 1, by omega, by go_num, ext_of (gr), fun z hz => ?_⟩
          rw [take_get HX.out] at hz
          rcases List.mem_append.1 hz with hz | hz
          · exact HA.out z hz
          · obtain rfl := List.mem_singleton.1 hz
            exact HQ.out
        case measure => simp [intOf]; omega
    · go_wp2
      go_ret
      refine ⟨-1, rfl, ?_, gr⟩
      rw [eq_comm]
      show xs.any _ = false
      rw [List.any_eq_false]
      intro z hz
      have := HA.out z (by rw [List.take_of_length_le (by have := HL.out; omega)]; exact hz)
      simp [this]
theorem containsFuncSum (a : Option Addr) (n cap : Nat) (xs : List Sum) (w : World) (hr : RdL ESum 3 w a n xs) (hn : n ≤ 9223372036854775807) :
    Calls Tryz.prog 92 #[.slice a n cap, .func (.func 93) #[] #[]] w fun e w' => e = .returned (.bool (!xs.all sumOkB)) ∧ Grew w w' := by
  have C := Lib.hid (indexFuncSum a n cap xs w hr hn)
  clear hr
  go_enter Tryz.func92, Tryz.ntmps92
  go_wp2_with fail
  refine C.out.mono ?_
  rintro e w1 ⟨z, rfl, hz, g1⟩
  rw [any_not] at hz
  have HZ := Lib.hid hz; clear hz
  have HG := Lib.hid g1; clear g1
  go_wp2
  go_ret
  exact ⟨by rw [← HZ.out]; rfl, HG.out⟩


set_option maxHeartbeats 1000000 in
theorem implSumsOk (a a' : Option Addr) (n n' cap cap' : Nat) (ps : List Prc) (ss : List Sum) (w : World) (hr : RdP w a n ps) (hr' : RdL ESum 3 w a' n' ss) (hn : n ≤ 9223372036854775807) (hn' : n' ≤ 9223372036854775807) :
    Calls Tryz.prog 51 #[.agg #[.slice a n cap], .slice a' n' cap'] w fun e w' => e = .returned (.bool (sumsOkB ps ss)) ∧ Grew w w' := by
  have HL := Lib.hid hr.len
  have HL' := Lib.hid hr'.len
  have C := fun W (h : Grew w W) => implPrgOk a n cap ps W (hr.grew h) hn
  have C2 := fun W (h : Grew w W) => containsFuncSum a' n' cap' ss W (hr'.grew staysSum h) hn'
  clear hr' hr
  cases hq : prgOkB ps
  · rw [hq] at C
    have HF : Hid (sumsOkB ps ss = false) := Lib.hid (by simp [sumsOkB, hq])
    have HC := Lib.hid C; clear C C2 hq
    go_enter Tryz.func51, Tryz.ntmps51
    go_wp2_with ((with_reducible refine (HC.out _ (gr)).mono ?_); rintro e w' ⟨rfl, g'⟩; (first | obtain ⟨y, rfl⟩ := ext_cold g' | obtain ⟨y, rfl⟩ := ext_col g' | obtain ⟨y, rfl⟩ := ext_of g'); clear g')
    go_ret
    refine ⟨by rw [HF.out]; rfl, ?_⟩
    exact gr
  rw [hq] at C
  have HC := Lib.hid C; clear C
  have HC2 := Lib.hid C2; clear C2
  by_cases hnn : n' = n
  · subst hnn
    have HH : Hid (sumsOkB ps ss = ss.all sumOkB) := Lib.hid (by
      have h1 := HL.out
      have h2 := HL'.out
      simp [sumsOkB, hq, h1, h2])
    clear hq
    generalize ss.all sumOkB = B at *
    go_enter Tryz.func51, Tryz.ntmps51
    go_wp2_with (first | ((with_reducible refine (HC.out _ (gr)).mono ?_); rintro e w' ⟨rfl, g'⟩; (first | obtain ⟨y, rfl⟩ := ext_cold g' | obtain ⟨y, rfl⟩ := ext_col g' | obtain ⟨y, rfl⟩ := ext_of g'); clear g') | ((with_reducible refine (HC2.out _ (gr)).mono ?_); rintro e w' ⟨rfl, g'⟩; (first | obtain ⟨z, rfl⟩ := ext_cold g' | obtain ⟨z, rfl⟩ := ext_col g' | obtain ⟨z, rfl⟩ := ext_of g'); clear g'))
    go_ret
    refine ⟨by rw [HH.out]; cases B <;> rfl, ?_⟩
    exact gr
  · have HF : Hid (sumsOkB ps ss = false) := Lib.hid (by
      have h1 := HL.out
      have h2 := HL'.out
      simp [sumsOkB, h1, h2, hnn])
    have hb : ((n' : Int) == (n : Int)) = false := by simp; omega
    clear hnn hq
    go_enter Tryz.func51, Tryz.ntmps51
    go_wp2_with ((with_reducible refine (HC.out _ (gr)).mono ?_); rintro e w' ⟨rfl, g'⟩; (first | obtain ⟨y, rfl⟩ := ext_cold g' | obtain ⟨y, rfl⟩ := ext_col g' | obtain ⟨y, rfl⟩ := ext_of g'); clear g')
    go_ret
    refine ⟨by rw [HF.out]; rfl, ?_⟩
    exact gr
end Go.Proofs.YtpmfpgbpndobpaaGreat