/- Lemmas and walks of this proof, some texts one behind the other. No condition. -/
import Derived.Test.YtdddhnepanjmfaaGreatCode
import Derived.Test.YtdddhnepanjmfaaGreatInsOk
import Derived.Deep.Light
import Derived.Test.YtdddhnepanjmfaaGreatBlk
set_option linter.unusedSimpArgs false
set_option linter.unusedVariables false
/- Programs: their sizes, and whether two are the same. No condition. -/
namespace Go.Proofs.YtdddhnepanjmfaaGreat
open Go.RowKit
set_option linter.unusedVariables false
attribute [local go_sem] ext_cell ext_frozen ext_lt ext_le ext_le1 lt_s2 lt_s3 lt_s4 lt_s5 lt_s6 ext_lt1 ext_lt2 ext_lt3

theorem szInsInsS (a : Option Addr) (n cap : Nat) (left : Int) (w : World) (h0 : 0 ≤ left) (h1 : left ≤ 1048576) (hn : n ≤ 9223372036854775807) :
    Calls Tryz.prog 67 #[.slice a n cap, .int .i64 left] w fun e w' => e = .returned (.int .i64 (if left < n then -1 else left - n)) ∧ w = w' := by
  by_cases h : left < n
  · have h2 : left - n < 0 := by omega
    rw [if_pos h]
    clear h
    go_enter Tryz.func67, Tryz.ntmps67
    go_wp2
    go_ret
    exact ⟨rfl, rfl⟩
  · have h2 : ¬ left - n < 0 := by omega
    have h3 : 0 ≤ left - n := by omega
    rw [if_neg h]
    clear h
    go_enter Tryz.func67, Tryz.ntmps67
    go_wp2
    go_ret
    exact ⟨rfl, rfl⟩

theorem szPrcProc (lo hi : Int) (a : Option Addr) (n cap : Nat) (left : Int) (w : World) (h0 : 0 ≤ left) (h1 : left ≤ 1048576) (hn : n ≤ 9223372036854775807) :
    Calls Tryz.prog 36 #[.agg #[.int .i64 lo, .int .i64 hi, .slice a n cap], .int .i64 left] w fun e w' => e = .returned (.int .i64 (if left < n then -1 else left - n)) ∧ Grew w w' := by
  by_cases h : left < n
  · have C := fun w => szInsInsS a n cap left w h0 h1 hn
    rw [if_pos h] at C ⊢
    have HC := Lib.hid C; clear C h
    go_enter Tryz.func36, Tryz.ntmps36
    go_wp2_with ((with_reducible refine (HC.out _).mono ?_); rintro e w' ⟨rfl, rfl⟩)
    go_ret
    refine ⟨rfl, ?_⟩
    exact gr
  · have C := fun w => szInsInsS a n cap left w h0 h1 hn
    have h3 : ¬ left - n < 0 := by omega
    rw [if_neg h] at C ⊢
    have HC := Lib.hid C; clear C h
    go_enter Tryz.func36, Tryz.ntmps36
    go_wp2_with ((with_reducible refine (HC.out _).mono ?_); rintro e w' ⟨rfl, rfl⟩)
    go_ret
    refine ⟨rfl, ?_⟩
    exact gr

/-- What is told of sizes: too much, or all are small. -/
def RetSz (n : Nat) (ps : List Prc) (left : Int) (w : World) (e : Ending) (w' : World) : Prop :=
  ∃ z : Int, e = .returned (.int .i64 z) ∧ (z = -1 ∨ (0 ≤ z ∧ z ≤ left ∧ n ≤ 1048576 ∧ ∀ p, p ∈ ps → p.code.length ≤ 1048576)) ∧ Grew w w'

set_option maxHeartbeats 1000000 in
theorem szPrcProcS (a : Option Addr) (n cap : Nat) (ps : List Prc) (left : Int) (w : World) (hr : RdP w a n ps) (h0 : 0 ≤ left) (h1 : left ≤ 1048576) (hn : n ≤ 9223372036854775807) :
    Calls Tryz.prog 17 #[.slice a n cap, .int .i64 left] w (RetSz n ps left w) := by
  have HL := Lib.hid hr.len
  have HR := Lib.hid hr; clear hr
  by_cases h : left < n
  · have h2 : left - n < 0 := by omega
    clear h
    go_enter Tryz.func17, Tryz.ntmps17
    go_wp2
    go_ret
    exact ⟨-1, rfl, .inl rfl, Below.refl _ _⟩
  · have h2 : ¬ left - n < 0 := by omega
    have h3 : 0 ≤ left - n := by omega
    have hn2 : n ≤ 1048576 := by omega
    clear h
    go_enter Tryz.func17, Tryz.ntmps17
    go_wp2
    go_loopw [1, 5] (fun z i wr => ∃ (k : Nat) (L : Int), k ≤ n ∧ i = .int .i64 k ∧ z = .int .i64 L ∧ 0 ≤ L ∧ L ≤ left ∧ Grew w wr ∧ ∀ p, p ∈ ps.take k → p.code.length ≤ 1048576) (fun _ i _ => n - (intOf i).toNat)
    case atStart => exact ⟨0, _, Nat.zero_le _, rfl, rfl, h3, by omega, Below.refl _ _, by simp⟩
    case round =>
      obtain ⟨k, L, hk, rfl, rfl, hL0, hL1, hg, hps⟩ := hrel
      have HP := Lib.hid hps; clear hps
      by_cases hlt : k < n
      · obtain ⟨b, off, lo, hi, is, ia, ic, rfl, hx, c0, c1, c2, hb, hi1, hi2, hi3⟩ := rdP_at (HR.out.grew hg) hlt
        have HX := Lib.hid hx; clear hx
        have HG := Lib.hid hg; clear hg
        have hic : is.length ≤ 9223372036854775807 := by unfold maxLen at hi3; omega
        clear hi1 hi2 hi3
        have C := fun w => szPrcProc lo hi ia is.length ic L w hL0 (by omega) hic
        by_cases hs : L < is.length
        · rw [if_pos hs] at C
          have HC := Lib.hid C; clear C hs
          go_wp2_with ((with_reducible refine (HC.out _).mono ?_); rintro e w' ⟨rfl, g'⟩; (first | obtain ⟨x, rfl⟩ := ext_cold g' | obtain ⟨x, rfl⟩ := ext_col g' | obtain ⟨x, rfl⟩ := ext_of g'); clear g')
          go_ret
          refine ⟨-1, rfl, .inl rfl, ?_⟩
          apply grew_ext
          exact HG.out
        · rw [if_neg hs] at C
          have HC := Lib.hid C; clear C
          have h4 : ¬ L - is.length < 0 := by omega
          have h5 : 0 ≤ L - is.length := by omega
          have hsm : is.length ≤ 1048576 := by omega
          clear hs
          go_wp2_with ((with_reducible refine (HC.out _).mono ?_); rintro e w' ⟨rfl, g'⟩; (first | obtain ⟨x, rfl⟩ := ext_cold g' | obtain ⟨x, rfl⟩ := ext_col g' | obtain ⟨x, rfl⟩ := ext_of g'); clear g')
          go_roundw
          case rel =>
            refine ⟨k + 1, _, by omega, by go_num, rfl, h5, by omega, grew_ext HG.out x, fun p hp => ?_⟩
            rw [take_get HX.out] at hp
            rcases List.mem_append.1 hp with hp | hp
            · exact HP.out p hp
            · obtain rfl := List.mem_singleton.1 hp
              exact hsm
          case measure => simp [intOf]; omega
      · have HG := Lib.hid hg; clear hg
        go_wp2
        go_ret
        exact ⟨L, rfl, .inr ⟨hL0, by omega, hn2, fun p hp => HP.out p (by rw [List.take_of_length_le (by have := HL.out; omega)]; exact hp)⟩, HG.out⟩

theorem szPrgProg (a : Option Addr) (n cap : Nat) (ps : List Prc) (left : Int) (w : World) (hr : RdP w a n ps) (h0 : 0 ≤ left) (h1 : left ≤ 1048576) (hn : n ≤ 9223372036854775807) :
    Calls Tryz.prog 4 #[.agg #[.slice a n cap], .int .i64 left] w (RetSz n ps left w) := by
  have HR := Lib.hid hr; clear hr
  go_enter Tryz.func4, Tryz.ntmps4
  go_wp2_with fail
  refine (szPrcProcS a n cap ps left _ (HR.out.grew (by unfold Grew; go_grown)) h0 h1 hn).mono ?_
  rintro e w1 ⟨z, rfl, hz, g1⟩
  obtain ⟨x, rfl⟩ := ext_of g1
  clear g1
  rcases hz with rfl | ⟨z0, z1, z2⟩
  · go_wp2
    go_ret
    refine ⟨-1, rfl, .inl rfl, ?_⟩
    exact gr
  · have hz2 := Lib.hid z2; clear z2
    go_wp2
    go_ret
    refine ⟨z, rfl, .inr ⟨z0, z1, hz2.out⟩, ?_⟩
    exact gr

set_option maxHeartbeats 2000000 in
theorem eqInsIns (i j : Ins) (w : World) :
    Calls Tryz.prog 143 #[i.v, j.v] w fun e w' => e = .returned (.bool (insEqB i j)) ∧ Grew w w' := by
  obtain ⟨op, d, a, b, rel, lo, hi, to⟩ := i
  obtain ⟨op', d', a', b', rel', lo', hi', to'⟩ := j
  go_enter Tryz.func143, Tryz.ntmps143
  go_wp2
  all_goals
    go_ret
    refine ⟨by go_light; simp_all [insEqB], ?_⟩
    exact gr

theorem insEqB_iff {i j : Ins} : insEqB i j = true ↔ i = j := by simp [insEqB]

set_option maxHeartbeats 1000000 in
theorem eqInsInsS (a a' : Option Addr) (n n' cap cap' : Nat) (is js : List Ins) (w : World) (hr : RdL EIns 8 w a n is) (hr' : RdL EIns 8 w a' n' js) (hn : n ≤ 9223372036854775807) (hn' : n' ≤ 9223372036854775807) :
    Calls Tryz.prog 107 #[.slice a n cap, .slice a' n' cap'] w fun e w' => e = .returned (.bool (decide (is = js))) ∧ Grew w w' := by
  have HL := Lib.hid hr.len
  have HL' := Lib.hid hr'.len
  have HR := Lib.hid hr; clear hr
  have HR' := Lib.hid hr'; clear hr'
  by_cases hnn : n = n'
  · subst hnn
    go_enter Tryz.func107, Tryz.ntmps107
    go_wp2
    go_loopw [5] (fun i wr => ∃ k : Nat, k ≤ n ∧ i = .int .i64 k ∧ Grew w wr ∧ is.take k = js.take k) (fun i _ => n - (intOf i).toNat)
    case atStart => exact ⟨0, Nat.zero_le _, rfl, Below.refl _ _, by simp⟩
    case round =>
      obtain ⟨k, hk, rfl, hg, he⟩ := hrel
      have HE := Lib.hid he; clear he
      by_cases hlt : k < n
      · obtain ⟨b, off, op, d, ia, ib, rel, lo, hi, to, rfl, hx, c0, c1, c2, c3, c4, c5, c6, c7, hb⟩ := rdI_at (HR.out.grew stays_ins hg) hlt
        obtain ⟨b', off', op', d', ia', ib', rel', lo', hi', to', rfl, hx', c0', c1', c2', c3', c4', c5', c6', c7', hb'⟩ := rdI_at (HR'.out.grew stays_ins hg) hlt
        have HX := Lib.hid hx; clear hx
        have HX' := Lib.hid hx'; clear hx'
        have HG := Lib.hid hg; clear hg
        have C := fun w => eqInsIns ⟨op, d, ia, ib, rel, lo, hi, to⟩ ⟨op', d', ia', ib', rel', lo', hi', to'⟩ w
        cases hq : insEqB ⟨op, d, ia, ib, rel, lo, hi, to⟩ ⟨op', d', ia', ib', rel', lo', hi', to'⟩
        · have hfin : decide (is = js) = false := decide_eq_false (fun e => by
            have h1 := HX.out
            rw [e, HX'.out] at h1
            have := Option.some.inj h1
            rw [this] at hq
            simp [insEqB] at hq)
          have HF := Lib.hid hfin; clear hfin
          rw [hq] at C
          have HC := Lib.hid C; clear C hq
          go_wp2_with fail
          first | refine wp_region_ext2 (by kernel_rfl) (by kernel_rfl) ?_ | refine wp_region_ext (by kernel_rfl) (by kernel_rfl) ?_
          repeat (go_big_quiet_step ((first | (with_reducible exact ext_grow (HC.out _)))))
          refine wpQuiet_nil ?_
          intro _ hw'
          obtain ⟨x, hw''⟩ := hw'
          subst hw''
          go_wp2
          go_ret
          exact ⟨by rw [HF.out]; rfl, grew_ext HG.out x⟩
        · have HQ := Lib.hid (insEqB_iff.1 hq)
          rw [hq] at C
          have HC := Lib.hid C; clear C hq
          go_wp2_with fail
          first | refine wp_region_ext2 (by kernel_rfl) (by kernel_rfl) ?_ | refine wp_region_ext (by kernel_rfl) (by kernel_rfl) ?_
          repeat (go_big_quiet_step ((first | (with_reducible exact ext_grow (HC.out _)))))
          refine wpQuiet_nil ?_
          intro _ hw'
          obtain ⟨x, hw''⟩ := hw'
          subst hw''
          go_wp2
          go_roundw
          case rel => exact ⟨k + 1, by omega, by go_num, grew_ext HG.out x, by rw [take_get HX.out, take_get HX'.out, HE.out, HQ.out]⟩
          case measure => simp [intOf]; omega
      · have HG := Lib.hid hg; clear hg
        have : is = js := by
          have h := HE.out
          rwa [List.take_of_length_le (by have := HL.out; omega), List.take_of_length_le (by have := HL'.out; omega)] at h
        have HF := Lib.hid (decide_eq_true this); clear this
        go_wp2
        go_ret
        exact ⟨by rw [HF.out]; rfl, HG.out⟩
  · have hfin : decide (is = js) = false := decide_eq_false (fun e => by
      have h1 := HL.out
      rw [e, HL'.out] at h1
      exact hnn h1.symm)
    have hb : ((n : Int) != (n' : Int)) = true := by simp; omega
    have HF := Lib.hid hfin; clear hfin hnn
    go_enter Tryz.func107, Tryz.ntmps107
    go_wp2
    go_ret
    exact ⟨by rw [HF.out]; rfl, Below.refl _ _⟩

/-- Whether two procedures are the same. -/
def prcEqB (p q : Prc) : Bool := decide (p.lo = q.lo) && decide (p.hi = q.hi) && decide (p.code = q.code)
theorem prcEqB_iff {p q : Prc} : prcEqB p q = true ↔ p = q := by
  obtain ⟨a, b, c⟩ := p
  obtain ⟨a', b', c'⟩ := q
  simp [prcEqB, and_assoc]

set_option maxHeartbeats 1000000 in
theorem eqPrcProc (lo hi lo' hi' : Int) (a a' : Option Addr) (n n' cap cap' : Nat) (is js : List Ins) (w : World) (hr : RdL EIns 8 w a n is) (hr' : RdL EIns 8 w a' n' js) (hn : n ≤ 9223372036854775807) (hn' : n' ≤ 9223372036854775807) :
    Calls Tryz.prog 62 #[.agg #[.int .i64 lo, .int .i64 hi, .slice a n cap], .agg #[.int .i64 lo', .int .i64 hi', .slice a' n' cap']] w fun e w' => e = .returned (.bool (prcEqB ⟨lo, hi, is⟩ ⟨lo', hi', js⟩)) ∧ Grew w w' := by
  have C := fun W (h : Grew w W) => eqInsInsS a a' n n' cap cap' is js W (hr.grew stays_ins h) (hr'.grew stays_ins h) hn hn'
  clear hr hr'
  obtain ⟨B, hB⟩ : ∃ B, decide (is = js) = B := ⟨_, rfl⟩
  rw [hB] at C
  have HC := Lib.hid C; clear C
  have HB := Lib.hid hB; clear hB
  cases B
  all_goals
    go_enter Tryz.func62, Tryz.ntmps62
    go_wp2_with ((with_reducible refine (HC.out _ (by unfold Grew; go_grown)).mono ?_); rintro e w' ⟨rfl, g'⟩; (first | obtain ⟨x, rfl⟩ := ext_cold g' | obtain ⟨x, rfl⟩ := ext_col g' | obtain ⟨x, rfl⟩ := ext_of g'); clear g')
    all_goals
      go_ret
      refine ⟨by have hb := HB.out; go_light; simp_all [prcEqB], ?_⟩
      exact gr

set_option maxHeartbeats 1000000 in
theorem eqPrcProcS (a a' : Option Addr) (n n' cap cap' : Nat) (ps qs : List Prc) (w : World) (hr : RdP w a n ps) (hr' : RdP w a' n' qs) (hn : n ≤ 9223372036854775807) (hn' : n' ≤ 9223372036854775807) :
    Calls Tryz.prog 29 #[.slice a n cap, .slice a' n' cap'] w fun e w' => e = .returned (.bool (decide (ps = qs))) ∧ Grew w w' := by
  have HL := Lib.hid hr.len
  have HL' := Lib.hid hr'.len
  have HR := Lib.hid hr; clear hr
  have HR' := Lib.hid hr'; clear hr'
  by_cases hnn : n = n'
  · subst hnn
    go_enter Tryz.func29, Tryz.ntmps29
    go_wp2
    go_loopw [5] (fun i wr => ∃ k : Nat, k ≤ n ∧ i = .int .i64 k ∧ Grew w wr ∧ ps.take k = qs.take k) (fun i _ => n - (intOf i).toNat)
    case atStart => exact ⟨0, Nat.zero_le _, rfl, Below.refl _ _, by simp⟩
    case round =>
      obtain ⟨k, hk, rfl, hg, he⟩ := hrel
      have HE := Lib.hid he; clear he
      by_cases hlt : k < n
      · obtain ⟨b, off, lo, hi, is, ia, ic, rfl, hx, c0, c1, c2, hb, hi1, hi2, hi3⟩ := rdP_at (HR.out.grew hg) hlt
        obtain ⟨b', off', lo', hi', is', ia', ic', rfl, hx', c0', c1', c2', hb', hi1', hi2', hi3'⟩ := rdP_at (HR'.out.grew hg) hlt
        have HX := Lib.hid hx; clear hx
        have HX' := Lib.hid hx'; clear hx'
        have HG := Lib.hid hg; clear hg
        have C := fun x => eqPrcProc lo hi lo' hi' ia ia' is.length is'.length ic ic' is is' (ext wr x) (hi1.grew stays_ins (ext_grew _ x)) (hi1'.grew stays_ins (ext_grew _ x)) (by unfold maxLen at hi3; omega) (by unfold maxLen at hi3'; omega)
        clear hi1 hi2 hi3 hi1' hi2' hi3'
        cases hq : prcEqB ⟨lo, hi, is⟩ ⟨lo', hi', is'⟩
        · have hfin : decide (ps = qs) = false := decide_eq_false (fun e => by
            have h1 := HX.out
            rw [e, HX'.out] at h1
            have := Option.some.inj h1
            rw [this] at hq
            simp [prcEqB] at hq)
          have HF := Lib.hid hfin; clear hfin
          rw [hq] at C
          have HC := Lib.hid C; clear C hq
          go_wp2_with fail
          first | refine wp_region_ext2 (by kernel_rfl) (by kernel_rfl) ?_ | refine wp_region_ext (by kernel_rfl) (by kernel_rfl) ?_
          repeat (go_big_quiet_step ((first | (with_reducible exact ext_grow (HC.out _)))))
          refine wpQuiet_nil ?_
          intro _ hw'
          obtain ⟨x, hw''⟩ := hw'
          subst hw''
          go_wp2
          go_ret
          exact ⟨by rw [HF.out]; rfl, grew_ext HG.out x⟩
        · have HQ := Lib.hid (prcEqB_iff.1 hq)
          rw [hq] at C
          have HC := Lib.hid C; clear C hq
          go_wp2_with fail
          first | refine wp_region_ext2 (by kernel_rfl) (by kernel_rfl) ?_ | refine wp_region_ext (by kernel_rfl) (by kernel_rfl) ?_
          repeat (go_big_quiet_step ((first | (with_reducible exact ext_grow (HC.out _)))))
          refine wpQuiet_nil ?_
          intro _ hw'
          obtain ⟨x, hw''⟩ := hw'
          subst hw''
          go_wp2
          go_roundw
          case rel => exact ⟨k + 1, by omega, by go_num, grew_ext HG.out x, by rw [take_get HX.out, take_get HX'.out, HE.out, HQ.out]⟩
          case measure => simp [intOf]; omega
      · have HG := Lib.hid hg; clear hg
        have : ps = qs := by
          have h := HE.out
          rwa [List.take_of_length_le (by have := HL.out; omega), List.take_of_length_le (by have := HL'.out; omega)] at h
        have HF := Lib.hid (decide_eq_true this); clear this
        go_wp2
        go_ret
        exact ⟨by rw [HF.out]; rfl, HG.out⟩
  · have hfin : decide (ps = qs) = false := decide_eq_false (fun e => by
      have h1 := HL.out
      rw [e, HL'.out] at h1
      exact hnn h1.symm)
    have hb : ((n : Int) != (n' : Int)) = true := by simp; omega
    have HF := Lib.hid hfin; clear hfin hnn
    go_enter Tryz.func29, Tryz.ntmps29
    go_wp2
    go_ret
    exact ⟨by rw [HF.out]; rfl, Below.refl _ _⟩

theorem eqPrgProg (a a' : Option Addr) (n n' cap cap' : Nat) (ps qs : List Prc) (w : World) (hr : RdP w a n ps) (hr' : RdP w a' n' qs) (hn : n ≤ 9223372036854775807) (hn' : n' ≤ 9223372036854775807) :
    Calls Tryz.prog 11 #[.agg #[.slice a n cap], .agg #[.slice a' n' cap']] w fun e w' => e = .returned (.bool (decide (ps = qs))) ∧ Grew w w' := by
  have C := fun W (h : Grew w W) => eqPrcProcS a a' n n' cap cap' ps qs W (hr.grew h) (hr'.grew h) hn hn'
  clear hr hr'
  generalize decide (ps = qs) = B at *
  have HC := Lib.hid C; clear C
  cases B
  all_goals
    go_enter Tryz.func11, Tryz.ntmps11
    go_wp2_with ((with_reducible refine (HC.out _ (by unfold Grew; go_grown)).mono ?_); rintro e w' ⟨rfl, g'⟩; (first | obtain ⟨x, rfl⟩ := ext_cold g' | obtain ⟨x, rfl⟩ := ext_col g' | obtain ⟨x, rfl⟩ := ext_of g'); clear g')
    go_ret
    refine ⟨rfl, ?_⟩
    exact gr
end Go.Proofs.YtdddhnepanjmfaaGreat

/- The kinds of instructions: type assertions and the method ins. No condition. -/
namespace Go.Proofs.YtdddhnepanjmfaaGreat
open Go.RowKit
set_option linter.unusedVariables false

theorem methArith (n : Nat) (op d a b : Int) (w : World) : (method (n + 1) 205 (.agg #[.int .i64 op, .int .i64 d, .int .i64 a, .int .i64 b]) "loop.example/outwork/impl.ins").run Tryz.prog w = .ok (200, .agg #[.int .i64 op, .int .i64 d, .int .i64 a, .int .i64 b]) w := by kernel_rfl
theorem asArith (v : Value) (xT : TypeId) (w : World) : (Instr.typeAssert (.iface 205 v) xT 205 true).run Tryz.prog w = .ok (.tuple #[v, .bool true]) w := by kernel_rfl
theorem asNotArith (t : TypeId) (v : Value) (xT : TypeId) (w : World) (h : t ≠ 205) : (Instr.typeAssert (.iface t v) xT 205 true).run Tryz.prog w = .ok (.tuple #[.agg #[.int .i64 0, .int .i64 0, .int .i64 0, .int .i64 0], .bool false]) w := by simp [Instr.typeAssert, go_sem, h]
theorem methAny (n : Nat) (d lo hi : Int) (w : World) : (method (n + 1) 192 (.agg #[.int .i64 d, .int .i64 lo, .int .i64 hi]) "loop.example/outwork/impl.ins").run Tryz.prog w = .ok (195, .agg #[.int .i64 d, .int .i64 lo, .int .i64 hi]) w := by kernel_rfl
theorem asAny (v : Value) (xT : TypeId) (w : World) : (Instr.typeAssert (.iface 192 v) xT 192 true).run Tryz.prog w = .ok (.tuple #[v, .bool true]) w := by kernel_rfl
theorem asNotAny (t : TypeId) (v : Value) (xT : TypeId) (w : World) (h : t ≠ 192) : (Instr.typeAssert (.iface t v) xT 192 true).run Tryz.prog w = .ok (.tuple #[.agg #[.int .i64 0, .int .i64 0, .int .i64 0], .bool false]) w := by simp [Instr.typeAssert, go_sem, h]
theorem asNilAny (xT : TypeId) (w : World) : (Instr.typeAssert .nilIface xT 192 true).run Tryz.prog w = .ok (.tuple #[.agg #[.int .i64 0, .int .i64 0, .int .i64 0], .bool false]) w := by kernel_rfl
theorem methLoad (n : Nat) (d a : Int) (w : World) : (method (n + 1) 207 (.agg #[.int .i64 d, .int .i64 a]) "loop.example/outwork/impl.ins").run Tryz.prog w = .ok (201, .agg #[.int .i64 d, .int .i64 a]) w := by kernel_rfl
theorem asLoad (v : Value) (xT : TypeId) (w : World) : (Instr.typeAssert (.iface 207 v) xT 207 true).run Tryz.prog w = .ok (.tuple #[v, .bool true]) w := by kernel_rfl
theorem asNotLoad (t : TypeId) (v : Value) (xT : TypeId) (w : World) (h : t ≠ 207) : (Instr.typeAssert (.iface t v) xT 207 true).run Tryz.prog w = .ok (.tuple #[.agg #[.int .i64 0, .int .i64 0], .bool false]) w := by simp [Instr.typeAssert, go_sem, h]
theorem methStore (n : Nat) (a b : Int) (w : World) : (method (n + 1) 209 (.agg #[.int .i64 a, .int .i64 b]) "loop.example/outwork/impl.ins").run Tryz.prog w = .ok (202, .agg #[.int .i64 a, .int .i64 b]) w := by kernel_rfl
theorem asStore (v : Value) (xT : TypeId) (w : World) : (Instr.typeAssert (.iface 209 v) xT 209 true).run Tryz.prog w = .ok (.tuple #[v, .bool true]) w := by kernel_rfl
theorem asNotStore (t : TypeId) (v : Value) (xT : TypeId) (w : World) (h : t ≠ 209) : (Instr.typeAssert (.iface t v) xT 209 true).run Tryz.prog w = .ok (.tuple #[.agg #[.int .i64 0, .int .i64 0], .bool false]) w := by simp [Instr.typeAssert, go_sem, h]
theorem methIf (n : Nat) (rel a b to : Int) (w : World) : (method (n + 1) 194 (.agg #[.int .i64 rel, .int .i64 a, .int .i64 b, .int .i64 to]) "loop.example/outwork/impl.ins").run Tryz.prog w = .ok (196, .agg #[.int .i64 rel, .int .i64 a, .int .i64 b, .int .i64 to]) w := by kernel_rfl
theorem asIf (v : Value) (xT : TypeId) (w : World) : (Instr.typeAssert (.iface 194 v) xT 194 true).run Tryz.prog w = .ok (.tuple #[v, .bool true]) w := by kernel_rfl
theorem asNotIf (t : TypeId) (v : Value) (xT : TypeId) (w : World) (h : t ≠ 194) : (Instr.typeAssert (.iface t v) xT 194 true).run Tryz.prog w = .ok (.tuple #[.agg #[.int .i64 0, .int .i64 0, .int .i64 0, .int .i64 0], .bool false]) w := by simp [Instr.typeAssert, go_sem, h]
theorem asNilIf (xT : TypeId) (w : World) : (Instr.typeAssert .nilIface xT 194 true).run Tryz.prog w = .ok (.tuple #[.agg #[.int .i64 0, .int .i64 0, .int .i64 0, .int .i64 0], .bool false]) w := by kernel_rfl
theorem methJump (n : Nat) (to : Int) (w : World) : (method (n + 1) 196 (.agg #[.int .i64 to]) "loop.example/outwork/impl.ins").run Tryz.prog w = .ok (197, .agg #[.int .i64 to]) w := by kernel_rfl
theorem asJump (v : Value) (xT : TypeId) (w : World) : (Instr.typeAssert (.iface 196 v) xT 196 true).run Tryz.prog w = .ok (.tuple #[v, .bool true]) w := by kernel_rfl
theorem asNotJump (t : TypeId) (v : Value) (xT : TypeId) (w : World) (h : t ≠ 196) : (Instr.typeAssert (.iface t v) xT 196 true).run Tryz.prog w = .ok (.tuple #[.agg #[.int .i64 0], .bool false]) w := by simp [Instr.typeAssert, go_sem, h]
theorem asNilJump (xT : TypeId) (w : World) : (Instr.typeAssert .nilIface xT 196 true).run Tryz.prog w = .ok (.tuple #[.agg #[.int .i64 0], .bool false]) w := by kernel_rfl
theorem methCall (n : Nat) (d a to : Int) (w : World) : (method (n + 1) 198 (.agg #[.int .i64 d, .int .i64 a, .int .i64 to]) "loop.example/outwork/impl.ins").run Tryz.prog w = .ok (198, .agg #[.int .i64 d, .int .i64 a, .int .i64 to]) w := by kernel_rfl
theorem asCall (v : Value) (xT : TypeId) (w : World) : (Instr.typeAssert (.iface 198 v) xT 198 true).run Tryz.prog w = .ok (.tuple #[v, .bool true]) w := by kernel_rfl
theorem asNotCall (t : TypeId) (v : Value) (xT : TypeId) (w : World) (h : t ≠ 198) : (Instr.typeAssert (.iface t v) xT 198 true).run Tryz.prog w = .ok (.tuple #[.agg #[.int .i64 0, .int .i64 0, .int .i64 0], .bool false]) w := by simp [Instr.typeAssert, go_sem, h]
theorem asNilCall (xT : TypeId) (w : World) : (Instr.typeAssert .nilIface xT 198 true).run Tryz.prog w = .ok (.tuple #[.agg #[.int .i64 0, .int .i64 0, .int .i64 0], .bool false]) w := by kernel_rfl
theorem methAssert (n : Nat) (rel a b : Int) (w : World) : (method (n + 1) 200 (.agg #[.int .i64 rel, .int .i64 a, .int .i64 b]) "loop.example/outwork/impl.ins").run Tryz.prog w = .ok (199, .agg #[.int .i64 rel, .int .i64 a, .int .i64 b]) w := by kernel_rfl
theorem asAssert (v : Value) (xT : TypeId) (w : World) : (Instr.typeAssert (.iface 200 v) xT 200 true).run Tryz.prog w = .ok (.tuple #[v, .bool true]) w := by kernel_rfl
theorem asNotAssert (t : TypeId) (v : Value) (xT : TypeId) (w : World) (h : t ≠ 200) : (Instr.typeAssert (.iface t v) xT 200 true).run Tryz.prog w = .ok (.tuple #[.agg #[.int .i64 0, .int .i64 0, .int .i64 0], .bool false]) w := by simp [Instr.typeAssert, go_sem, h]
theorem asNilAssert (xT : TypeId) (w : World) : (Instr.typeAssert .nilIface xT 200 true).run Tryz.prog w = .ok (.tuple #[.agg #[.int .i64 0, .int .i64 0, .int .i64 0], .bool false]) w := by kernel_rfl
theorem methRet (n : Nat) (a : Int) (w : World) : (method (n + 1) 229 (.agg #[.int .i64 a]) "loop.example/outwork/impl.ins").run Tryz.prog w = .ok (203, .agg #[.int .i64 a]) w := by kernel_rfl
theorem asRet (v : Value) (xT : TypeId) (w : World) : (Instr.typeAssert (.iface 229 v) xT 229 true).run Tryz.prog w = .ok (.tuple #[v, .bool true]) w := by kernel_rfl
theorem asNotRet (t : TypeId) (v : Value) (xT : TypeId) (w : World) (h : t ≠ 229) : (Instr.typeAssert (.iface t v) xT 229 true).run Tryz.prog w = .ok (.tuple #[.agg #[.int .i64 0], .bool false]) w := by simp [Instr.typeAssert, go_sem, h]
end Go.Proofs.YtdddhnepanjmfaaGreat
