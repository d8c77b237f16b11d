/- Contracts of PrgOk of the reference and of the program. No condition. -/
import Derived.Test.YtdddhnepanjmfaaGreatKinds
import Derived.Test.YtdddhnepanjmfaaGreatLawInsOk
namespace Go.Proofs.YtdddhnepanjmfaaGreat
open Go.RowKit
set_option linter.unusedVariables false
attribute [local go_sem] ext_cell ext_frozen ext_lt ext_le ext_le1 lt_s2 lt_s3 lt_s4 lt_s5 lt_s6 ext_lt1 ext_lt2 ext_lt3

def endsB (i : Ins) : Bool := decide (i.op = 12) || decide (i.op = 9)
def lastB (is : List Ins) : Bool := match is.getLast? with | some i => endsB i | none => false
def prcOkB (p : Prc) (procs : Int) : Bool := itvOkB p.lo p.hi && (decide (1 ≤ p.code.length) && decide (p.code.length ≤ 10)) && p.code.all (fun i => insOkB i procs p.code.length) && lastB p.code
def prgOkB (ps : List Prc) : Bool := (decide (1 ≤ ps.length) && decide (ps.length ≤ 4)) && ps.all (fun p => prcOkB p ps.length)

theorem lastB_of {is : List Ins} {i : Ins} {m : Nat} (hl : is.length = m + 1) (h : is[m]? = some i) : lastB is = endsB i := by
  have : is.getLast? = some i := by rw [List.getLast?_eq_getElem?, hl]; exact h
  rw [lastB, this]

set_option maxHeartbeats 2000000 in
theorem specL3Proc (lo hi : Int) (a : Option Addr) (n cap : Nat) (is : List Ins) (procs : Int) (w : World) (hr : RdL EIns 8 w a n is) (hn : n ≤ 9223372036854775807) :
    Calls Tryz.prog 70 #[.agg #[.int .i64 lo, .int .i64 hi, .slice a n cap], .int .i64 procs] w fun e w' => e = .returned (.bool (prcOkB ⟨lo, hi, is⟩ procs)) ∧ Grew w w' := by
  have HL := Lib.hid hr.len
  have HR := Lib.hid hr; clear hr
  by_cases hh : -32768 ≤ lo ∧ lo ≤ 32767 ∧ -32768 ≤ hi ∧ hi ≤ 32767 ∧ lo ≤ hi ∧ 1 ≤ n ∧ n ≤ 10
  · obtain ⟨h1, h2, h3, h4, h5, h6, h7⟩ := hh
    have HH : Hid (prcOkB ⟨lo, hi, is⟩ procs = (is.all (fun i => insOkB i procs n) && lastB is)) := Lib.hid (by
      have := HL.out
      simp [prcOkB, itvOkB, h1, h2, h3, h4, h5, this, h6, h7])
    have h8 : (1 : Int) ≤ (n : Int) := by omega
    have h9 : (n : Int) ≤ 10 := by omega
    have h5' : ¬ hi < lo := by omega
    go_enter Tryz.func70, Tryz.ntmps70
    go_wp2_with (first | ((with_reducible refine (specNumOk _ _).mono ?_); rintro e w' ⟨rfl, rfl⟩) | ((with_reducible refine (l1In _ _ _ _).mono ?_); rintro e w' ⟨rfl, rfl⟩))
    go_loopw [6] (fun i wr => ∃ k : Nat, k ≤ n ∧ i = .int .i64 k ∧ (∃ x, wr = ext (w.alloc (.cells #[.int .i64 lo, .int .i64 hi, .slice a n cap] 95)) x) ∧ ∀ i, i ∈ is.take k → insOkB i procs n = true) (fun i _ => n - (intOf i).toNat)
    case atStart => exact ⟨0, Nat.zero_le _, rfl, ext_of (Below.refl _ _), by simp⟩
    case round =>
      obtain ⟨k, hk, rfl, ⟨x, rfl⟩, hall⟩ := hrel
      have HA := Lib.hid hall; clear hall
      have HG : Hid (Grew w (ext (w.alloc (.cells #[.int .i64 lo, .int .i64 hi, .slice a n cap] 95)) x)) := Lib.hid (gr)
      by_cases hlt : k < n
      · obtain ⟨b, off, op, d, ia, ib, rel, lo', hi', to, rfl, hx, c0, c1, c2, c3, c4, c5, c6, c7, hb⟩ := rdI_at (HR.out.grew stays_ins HG.out) hlt
        have HX := Lib.hid hx; clear hx
        have C := fun w => specInsOk ⟨op, d, ia, ib, rel, lo', hi', to⟩ procs n w
        cases hq : insOkB ⟨op, d, ia, ib, rel, lo', hi', to⟩ procs n
        · rw [hq] at C
          have HC := Lib.hid C; clear C
          have HQ := Lib.hid hq; clear hq
          go_wp2_with ((with_reducible refine (HC.out _).mono ?_); rintro e w' ⟨rfl, g'⟩; (first | obtain ⟨y, rfl⟩ := ext_cold g' | obtain ⟨y, rfl⟩ := ext_col g' | obtain ⟨y, rfl⟩ := ext_of g'); clear g')
          go_ret
          refine ⟨?_, ?_⟩
          · rw [HH.out]
            have : is.all (fun i => insOkB i procs n) = false := by
              rw [List.all_eq_false]
              exact ⟨_, List.mem_of_getElem? HX.out, by simp [HQ.out]⟩
            rw [this]
            rfl
          · exact gr
        · rw [hq] at C
          have HC := Lib.hid C; clear C
          have HQ := Lib.hid hq; clear hq
          go_wp2_with ((with_reducible refine (HC.out _).mono ?_); rintro e w' ⟨rfl, g'⟩; (first | obtain ⟨y, rfl⟩ := ext_cold g' | obtain ⟨y, rfl⟩ := ext_col g' | obtain ⟨y, rfl⟩ := ext_of g'); clear g')
          go_roundw
          case rel =>
            refine ⟨k + 1, by omega, by go_num, ext_of (gr), fun i hi => ?_⟩
            rw [take_get HX.out] at hi
            rcases List.mem_append.1 hi with hi | hi
            · exact HA.out i hi
            · obtain rfl := List.mem_singleton.1 hi
              exact HQ.out
          case measure => simp [intOf]; omega
      · have hall : is.all (fun i => insOkB i procs n) = true := by
          rw [List.all_eq_true]
          intro i hi
          exact HA.out i (by rw [List.take_of_length_le (by have := HL.out; omega)]; exact hi)
        have HF := Lib.hid hall; clear hall
        obtain ⟨b, off, op, d, ia, ib, rel, lo', hi', to, rfl, hx, c0, c1, c2, c3, c4, c5, c6, c7, hb⟩ := rdI_at (HR.out.grew stays_ins HG.out) (k := n - 1) (by omega)
        have HE : Hid (prcOkB ⟨lo, hi, is⟩ procs = (decide (op = 12) || decide (op = 9))) := Lib.hid (by
          rw [HH.out, HF.out, lastB_of (m := n - 1) (by have := HL.out; omega) hx]
          rfl)
        clear hx
        go_wp2
        all_goals
          go_ret
          refine ⟨by rw [HE.out]; go_light; by_cases h12 : op = 12 <;> by_cases h9' : op = 9 <;> simp_all, ?_⟩
          exact gr
  · have HF : Hid (prcOkB ⟨lo, hi, is⟩ procs = false) := Lib.hid (by
      have h1 := HL.out
      rw [Bool.eq_false_iff]
      intro h
      simp only [prcOkB, itvOkB, Bool.and_eq_true, decide_eq_true_eq, h1] at h
      obtain ⟨⟨⟨⟨⟨⟨a1, a2⟩, a3, a4⟩, a5⟩, a6, a7⟩, _⟩, _⟩ := h
      exact hh ⟨a1, a2, a3, a4, a5, a6, a7⟩)
    rw [HF.out]
    clear HF HR HL
    by_cases h1 : -32768 ≤ lo ∧ lo ≤ 32767
    · obtain ⟨h1, h2⟩ := h1
      by_cases h3 : -32768 ≤ hi ∧ hi ≤ 32767
      · obtain ⟨h3, h4⟩ := h3
        by_cases h5 : hi < lo
        · clear hh
          go_enter Tryz.func70, Tryz.ntmps70
          go_wp2_with (first | ((with_reducible refine (specNumOk _ _).mono ?_); rintro e w' ⟨rfl, rfl⟩) | ((with_reducible refine (l1In _ _ _ _).mono ?_); rintro e w' ⟨rfl, rfl⟩))
          go_ret
          refine ⟨rfl, ?_⟩
          exact gr
        · have C := fun w => bool_is (b := false) (l1In n 1 10 w) (by rw [Bool.eq_false_iff]; simp only [ne_eq, Bool.and_eq_true, decide_eq_true_eq]; omega)
          have HC := Lib.hid C; clear C hh
          go_enter Tryz.func70, Tryz.ntmps70
          go_wp2_with (first | ((with_reducible refine (specNumOk _ _).mono ?_); rintro e w' ⟨rfl, rfl⟩) | ((with_reducible refine (HC.out _).mono ?_); rintro e w' ⟨rfl, rfl⟩))
          go_ret
          refine ⟨rfl, ?_⟩
          exact gr
      · have C := fun w => bool_is (b := false) (specNumOk hi w) (by rw [Bool.eq_false_iff]; simp only [ne_eq, Bool.and_eq_true, decide_eq_true_eq]; omega)
        have C0 := fun w => bool_is (b := true) (specNumOk lo w) (by simp only [Bool.and_eq_true, decide_eq_true_eq]; omega)
        have HC := Lib.hid C; clear C hh
        have HC0 := Lib.hid C0; clear C0 h3 h1 h2
        go_enter Tryz.func70, Tryz.ntmps70
        go_wp2_with (first | ((with_reducible refine (HC0.out _).mono ?_); rintro e w' ⟨rfl, rfl⟩) | ((with_reducible refine (HC.out _).mono ?_); rintro e w' ⟨rfl, rfl⟩))
        go_ret
        refine ⟨rfl, ?_⟩
        exact gr
    · have C := fun w => bool_is (b := false) (specNumOk lo w) (by rw [Bool.eq_false_iff]; simp only [ne_eq, Bool.and_eq_true, decide_eq_true_eq]; omega)
      have HC := Lib.hid C; clear C hh h1
      go_enter Tryz.func70, Tryz.ntmps70
      go_wp2_with (first | ((with_reducible refine (HC.out _).mono ?_); rintro e w' ⟨rfl, rfl⟩))
      go_ret
      refine ⟨rfl, ?_⟩
      exact gr

set_option maxHeartbeats 1000000 in
theorem specPrgOk (a : Option Addr) (n cap : Nat) (ps : List Prc) (w : World) (hr : RdP w a n ps) (hn : n ≤ 9223372036854775807) :
    Calls Tryz.prog 39 #[.agg #[.slice a n cap]] w fun e w' => e = .returned (.bool (prgOkB ps)) ∧ Grew w w' := by
  have HL := Lib.hid hr.len
  have HR := Lib.hid hr; clear hr
  by_cases hh : 1 ≤ n ∧ n ≤ 4
  · obtain ⟨h6, h7⟩ := hh
    have HH : Hid (prgOkB ps = ps.all (fun p => prcOkB p n)) := Lib.hid (by
      have := HL.out
      simp [prgOkB, this, h6, h7])
    have h8 : (1 : Int) ≤ (n : Int) := by omega
    have h9 : (n : Int) ≤ 4 := by omega
    go_enter Tryz.func39, Tryz.ntmps39
    go_wp2_with ((with_reducible refine (l1In _ _ _ _).mono ?_); rintro e w' ⟨rfl, rfl⟩)
    go_loopw [3] (fun i wr => ∃ k : Nat, k ≤ n ∧ i = .int .i64 k ∧ (∃ x, wr = ext (w.alloc (.cells #[.slice a n cap] 34)) x) ∧ ∀ p, p ∈ ps.take k → prcOkB p n = true) (fun i _ => n - (intOf i).toNat)
    case atStart => exact ⟨0, Nat.zero_le _, rfl, ext_of (Below.refl _ _), by simp⟩
    case round =>
      obtain ⟨k, hk, rfl, ⟨x, rfl⟩, hall⟩ := hrel
      have HA := Lib.hid hall; clear hall
      have HG : Hid (Grew w (ext (w.alloc (.cells #[.slice a n cap] 34)) x)) := Lib.hid (gr)
      by_cases hlt : k < n
      · obtain ⟨b, off, lo, hi, is, ia, ic, rfl, hx, c0, c1, c2, hb, hi1, hi2, hi3⟩ := rdP_at HR.out hlt
        obtain ⟨q0, q1, q2⟩ := lt3 hb
        have HX := Lib.hid hx; clear hx
        have C := fun y => specL3Proc lo hi ia is.length ic is n (ext (w.alloc (.cells #[.slice (some ⟨b, off, none⟩) n cap] 34)) y) (hi1.grew stays_ins (gr)) (by unfold maxLen at hi3; omega)
        clear hi1 hi2 hi3
        cases hq : prcOkB ⟨lo, hi, is⟩ n
        · rw [hq] at C
          have HC := Lib.hid C; clear C
          have HQ := Lib.hid hq; clear hq
          go_wp2_with fail
          first | refine wp_region_ext2 (by kernel_rfl) (by kernel_rfl) ?_ | refine wp_region_ext (by kernel_rfl) (by kernel_rfl) ?_
          repeat (go_big_quiet_step ((first | (with_reducible exact ext_grow (HC.out _)))))
          refine wpQuiet_nil ?_
          intro _ hw'
          obtain ⟨y, hw''⟩ := hw'
          subst hw''
          go_wp2
          go_ret
          refine ⟨?_, ?_⟩
          · rw [HH.out]
            have : ps.all (fun p => prcOkB p n) = false := by
              rw [List.all_eq_false]
              exact ⟨_, List.mem_of_getElem? HX.out, by simp [HQ.out]⟩
            rw [this]
            rfl
          · exact gr
        · rw [hq] at C
          have HC := Lib.hid C; clear C
          have HQ := Lib.hid hq; clear hq
          go_wp2_with fail
          first | refine wp_region_ext2 (by kernel_rfl) (by kernel_rfl) ?_ | refine wp_region_ext (by kernel_rfl) (by kernel_rfl) ?_
          repeat (go_big_quiet_step ((first | (with_reducible exact ext_grow (HC.out _)))))
          refine wpQuiet_nil ?_
          intro _ hw'
          obtain ⟨y, hw''⟩ := hw'
          subst hw''
          go_wp2
          go_roundw
          case rel =>
            refine ⟨k + 1, by omega, by go_num, ext_of (gr), fun p hp => ?_⟩
            rw [take_get HX.out] at hp
            rcases List.mem_append.1 hp with hp | hp
            · exact HA.out p hp
            · obtain rfl := List.mem_singleton.1 hp
              exact HQ.out
          case measure => simp [intOf]; omega
      · have hall : ps.all (fun p => prcOkB p n) = true := by
          rw [List.all_eq_true]
          intro p hp
          exact HA.out p (by rw [List.take_of_length_le (by have := HL.out; omega)]; exact hp)
        have HF := Lib.hid hall; clear hall
        go_wp2
        go_ret
        refine ⟨by rw [HH.out, HF.out]; rfl, ?_⟩
        exact gr
  · have HF : Hid (prgOkB ps = false) := Lib.hid (by
      have h1 := HL.out
      rw [Bool.eq_false_iff]
      intro h
      simp only [prgOkB, Bool.and_eq_true, decide_eq_true_eq, h1] at h
      exact hh h.1)
    have C := fun w => bool_is (b := false) (l1In n 1 4 w) (by rw [Bool.eq_false_iff]; simp only [ne_eq, Bool.and_eq_true, decide_eq_true_eq]; omega)
    have HC := Lib.hid C; clear C hh
    go_enter Tryz.func39, Tryz.ntmps39
    go_wp2_with ((with_reducible refine (HC.out _).mono ?_); rintro e w' ⟨rfl, rfl⟩)
    go_ret
    refine ⟨by rw [HF.out]; rfl, ?_⟩
    exact gr
end Go.Proofs.YtdddhnepanjmfaaGreat
