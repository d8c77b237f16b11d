/- Lemmas and walks of this proof, some texts one behind the other. No condition. -/
import Derived.Test.YtdddhnepanjmfaaGreatGlue
import Derived.Test.YtdddhnepanjmfaaGreatItvM
import Derived.Test.YtdddhnepanjmfaaGreatBlk
set_option linter.unusedSimpArgs false
set_option linter.unusedVariables false
/- What the laws mark in memory, and that the marks are held. No condition. -/
namespace Go.Proofs.YtdddhnepanjmfaaGreat
open Go.RowKit
set_option linter.unusedVariables false
attribute [local go_sem] ext_cell ext_frozen ext_lt ext_le ext_le1 lt_s2 lt_s3 lt_s4 lt_s5 lt_s6 ext_lt1 ext_lt2 ext_lt3

/-- What marking writes: the numbers from k on. -/
def markI (k m : Nat) : List Value := (List.range m).map fun j => .int .i64 ((k + j : Nat) : Int)
theorem markI_len (k m : Nat) : (markI k m).length = m := by simp [markI]
theorem markI_get (k m j : Nat) (h : j < m) : (markI k m)[j]? = some (.int .i64 ((k + j : Nat) : Int)) := by simp [markI, h]
theorem mark_step {k0 k C N : Nat} {ys : List Value} (hl : ys.length = N) (hN : k * C + C ≤ N) (cs : List Value) (hcl : cs.length = C) (hcs : ∀ r, r < C → cs[r]? = some (.int .i64 ((k0 + k * C + r : Nat) : Int)))
    (h : ∀ j, j < k * C → ys[j]? = (markI k0 N)[j]?) : ∀ j, j < (k + 1) * C → (sets ys (k * C) cs)[j]? = (markI k0 N)[j]? := by
  intro j hj
  rw [Nat.succ_mul] at hj
  rw [sets_get _ _ _ _ (by omega), hcl]
  by_cases h1 : j < k * C
  · rw [if_neg (by omega)]
    exact h j h1
  · rw [if_pos (by omega), hcs _ (by omega), markI_get _ _ _ (by omega), show k0 + k * C + (j - k * C) = k0 + j from by omega]
theorem mark_all {k0 C n : Nat} {ys : List Value} (hl : ys.length = n * C) (h : ∀ j, j < n * C → ys[j]? = (markI k0 (n * C))[j]?) : ys = markI k0 (n * C) := by
  apply List.ext_getElem?
  intro j
  by_cases hj : j < n * C
  · exact h j hj
  · rw [List.getElem?_eq_none (by omega), List.getElem?_eq_none (by rw [markI_len]; omega)]

set_option maxHeartbeats 4000000 in
theorem markItvItvS (a : Option Addr) (n cap : Nat) (k0 : Nat) (cs : List Value) (B : Nat) (w : World) (ho : w.ownsRow B 98 2 (.slice a n cap) n cs) (hk0 : k0 ≤ 1125899906842624) (hm : n ≤ 1099511627776) :
    Calls Tryz.prog 110 #[.slice a n cap, .int .i64 k0] w fun e w' => e = .returned (.int .i64 ((k0 + n * 2 : Nat) : Int)) ∧
      w'.ownsRow B 98 2 (.slice a n cap) n (markI k0 (n * 2)) ∧ Chg (fun b => (Value.slice a n cap).ownBlock = some b) w w' := by
  have HO := Lib.hid ho; clear ho
  go_enter Tryz.func110, Tryz.ntmps110
  go_wp2
  go_loopw [1, 5] (fun kk i wr => ∃ k K : Nat, k ≤ n ∧ K = k0 + k * 2 ∧ i = .int .i64 k ∧ kk = .int .i64 K ∧ Chg (fun b => (Value.slice a n cap).ownBlock = some b) w wr ∧
    ∃ ys, wr.ownsRow B 98 2 (.slice a n cap) n ys ∧ ∀ j, j < k * 2 → ys[j]? = (markI k0 (n * 2))[j]?) (fun _ i _ => n - (intOf i).toNat)
  case atStart => exact ⟨0, k0, Nat.zero_le _, by omega, rfl, rfl, Chg.refl _ _, _, HO.out, fun j hj => absurd hj (by omega)⟩
  case round =>
    obtain ⟨k, K, hk, hK, rfl, rfl, hg, ys, how, hys⟩ := hrel
    have hK1 : K ≤ 1135000000000000 := by omega
    have HK := Lib.hid hK; clear hK
    by_cases hlt : k < n
    · obtain ⟨g, rfl⟩ : ∃ g, a = some ⟨g, 0, none⟩ := by
        rcases how.2 with ⟨h1, h2⟩ | ⟨g, cap', cur, h1, _⟩
        · omega
        · simp only [Value.slice.injEq] at h1
          exact ⟨g, h1.1⟩
      have HH := Lib.hid hys; clear hys
      have HG := Lib.hid hg; clear hg
      have HW := Lib.hid how; clear how
      obtain ⟨y0, e0⟩ := own_some HW.out (j := k * 2) (by omega)
      obtain ⟨y1, e1⟩ := own_some HW.out (j := k * 2 + 1) (by omega)
      have f0 := fun j => HW.out.frozenAt j
      go_wp2
      go_roundw
      case rel =>
        have hK := HK.out
        obtain ⟨ho', hg'⟩ := own_sets ([.int .i64 (K : Int), .int .i64 ((K : Int) + 1)]) _ _ (k * 2) HW.out
        refine ⟨k + 1, K + 2, by omega, by omega, by go_num, by go_num, (HG.out.trans (Chg.of_grownBy hg') (fun _ _ h => h) (fun i _ h => h)), _, ho', mark_step HW.out.1 (by omega) _ rfl (fun r hr => ?_) HH.out⟩
        match r, hr with
          | 0, _ => rw [← hK]; rfl
          | 1, _ => rw [← hK]; rfl
      case measure => simp [intOf]; omega
    · obtain rfl : k = n := by omega
      have hfin := mark_all how.1 hys
      subst hfin
      clear hys
      have HW := Lib.hid how; clear how
      have HG := Lib.hid hg; clear hg
      go_wp2
      go_ret
      exact ⟨by rw [HK.out]; rfl, HW.out, HG.out⟩

set_option maxHeartbeats 4000000 in
theorem markInsInsS (a : Option Addr) (n cap : Nat) (k0 : Nat) (cs : List Value) (B : Nat) (w : World) (ho : w.ownsRow B 103 8 (.slice a n cap) n cs) (hk0 : k0 ≤ 1125899906842624) (hm : n ≤ 1099511627776) :
    Calls Tryz.prog 65 #[.slice a n cap, .int .i64 k0] w fun e w' => e = .returned (.int .i64 ((k0 + n * 8 : Nat) : Int)) ∧
      w'.ownsRow B 103 8 (.slice a n cap) n (markI k0 (n * 8)) ∧ Chg (fun b => (Value.slice a n cap).ownBlock = some b) w w' := by
  have HO := Lib.hid ho; clear ho
  go_enter Tryz.func65, Tryz.ntmps65
  go_wp2
  go_loopw [1, 5] (fun kk i wr => ∃ k K : Nat, k ≤ n ∧ K = k0 + k * 8 ∧ i = .int .i64 k ∧ kk = .int .i64 K ∧ Chg (fun b => (Value.slice a n cap).ownBlock = some b) w wr ∧
    ∃ ys, wr.ownsRow B 103 8 (.slice a n cap) n ys ∧ ∀ j, j < k * 8 → ys[j]? = (markI k0 (n * 8))[j]?) (fun _ i _ => n - (intOf i).toNat)
  case atStart => exact ⟨0, k0, Nat.zero_le _, by omega, rfl, rfl, Chg.refl _ _, _, HO.out, fun j hj => absurd hj (by omega)⟩
  case round =>
    obtain ⟨k, K, hk, hK, rfl, rfl, hg, ys, how, hys⟩ := hrel
    have hK1 : K ≤ 1135000000000000 := by omega
    have HK := Lib.hid hK; clear hK
    by_cases hlt : k < n
    · obtain ⟨g, rfl⟩ : ∃ g, a = some ⟨g, 0, none⟩ := by
        rcases how.2 with ⟨h1, h2⟩ | ⟨g, cap', cur, h1, _⟩
        · omega
        · simp only [Value.slice.injEq] at h1
          exact ⟨g, h1.1⟩
      have HH := Lib.hid hys; clear hys
      have HG := Lib.hid hg; clear hg
      have HW := Lib.hid how; clear how
      obtain ⟨y0, e0⟩ := own_some HW.out (j := k * 8) (by omega)
      obtain ⟨y1, e1⟩ := own_some HW.out (j := k * 8 + 1) (by omega)
      obtain ⟨y2, e2⟩ := own_some HW.out (j := k * 8 + 2) (by omega)
      obtain ⟨y3, e3⟩ := own_some HW.out (j := k * 8 + 3) (by omega)
      obtain ⟨y4, e4⟩ := own_some HW.out (j := k * 8 + 4) (by omega)
      obtain ⟨y5, e5⟩ := own_some HW.out (j := k * 8 + 5) (by omega)
      obtain ⟨y6, e6⟩ := own_some HW.out (j := k * 8 + 6) (by omega)
      obtain ⟨y7, e7⟩ := own_some HW.out (j := k * 8 + 7) (by omega)
      have f0 := fun j => HW.out.frozenAt j
      go_wp2
      go_roundw
      case rel =>
        have hK := HK.out
        obtain ⟨ho', hg'⟩ := own_sets ([.int .i64 (K : Int), .int .i64 ((K : Int) + 1), .int .i64 ((K : Int) + 1 + 1), .int .i64 ((K : Int) + 1 + 1 + 1), .int .i64 ((K : Int) + 1 + 1 + 1 + 1), .int .i64 ((K : Int) + 1 + 1 + 1 + 1 + 1), .int .i64 ((K : Int) + 1 + 1 + 1 + 1 + 1 + 1), .int .i64 ((K : Int) + 1 + 1 + 1 + 1 + 1 + 1 + 1)]) _ _ (k * 8) HW.out
        refine ⟨k + 1, K + 8, by omega, by omega, by go_num, by go_num, (HG.out.trans (Chg.of_grownBy hg') (fun _ _ h => h) (fun i _ h => h)), _, ho', mark_step HW.out.1 (by omega) _ rfl (fun r hr => ?_) HH.out⟩
        match r, hr with
          | 0, _ => rw [← hK]; rfl
          | 1, _ => rw [← hK]; rfl
          | 2, _ => rw [← hK]; rfl
          | 3, _ => rw [← hK]; rfl
          | 4, _ => rw [← hK]; rfl
          | 5, _ => rw [← hK]; rfl
          | 6, _ => rw [← hK]; rfl
          | 7, _ => rw [← hK]; rfl
      case measure => simp [intOf]; omega
    · obtain rfl : k = n := by omega
      have hfin := mark_all how.1 hys
      subst hfin
      clear hys
      have HW := Lib.hid how; clear how
      have HG := Lib.hid hg; clear hg
      go_wp2
      go_ret
      exact ⟨by rw [HK.out]; rfl, HW.out, HG.out⟩

end Go.Proofs.YtdddhnepanjmfaaGreat
/- States: how they lie in memory; compared, marked; what comes to a procedure's beginning. No condition. -/
namespace Go.Proofs.YtdddhnepanjmfaaGreat
open Go.RowKit
set_option linter.unusedVariables false
attribute [local go_sem] ext_cell ext_frozen ext_lt ext_le ext_le1 lt_s2 lt_s3 lt_s4 lt_s5 lt_s6 ext_lt1 ext_lt2 ext_lt3

/-- A state. -/
structure St where
  on : Bool
  vars : List Itv
  lo : Int
  hi : Int
  deriving DecidableEq
set_option maxHeartbeats 2000000 in
theorem eqAbsState (on on' : Bool) (a a' : Option Addr) (n n' c c' : Nat) (xs ys : List Itv) (lo hi lo' hi' : Int) (w : World) (hr : RdL EItv 2 w a n xs) (hr' : RdL EItv 2 w a' n' ys) (hn : n ≤ 9223372036854775807) (hn' : n' ≤ 9223372036854775807) :
    Calls Tryz.prog 144 #[.agg #[.bool on, .slice a n c, .int .i64 lo, .int .i64 hi], .agg #[.bool on', .slice a' n' c', .int .i64 lo', .int .i64 hi']] w
      fun e w' => e = .returned (.bool (decide ((⟨on, xs, lo, hi⟩ : St) = ⟨on', ys, lo', hi'⟩))) ∧ Grew w w' := by
  have C := fun W (h : Grew w W) => eqItvItvS a a' n n' c c' xs ys W (hr.grew staysItv h) (hr'.grew staysItv h) hn hn'
  have C2 := fun w => eqItvItv ⟨lo, hi⟩ ⟨lo', hi'⟩ w
  clear hr hr'
  obtain ⟨B, hB⟩ : ∃ B, decide (xs = ys) = B := ⟨_, rfl⟩
  obtain ⟨D, hD⟩ : ∃ D, itvEqB ⟨lo, hi⟩ ⟨lo', hi'⟩ = D := ⟨_, rfl⟩
  rw [hB] at C
  rw [hD] at C2
  have HC := Lib.hid C; clear C
  have HC2 := Lib.hid C2; clear C2
  have HV : Hid (decide ((⟨on, xs, lo, hi⟩ : St) = ⟨on', ys, lo', hi'⟩) = (decide (on = on') && (B && D))) := Lib.hid (by
    rw [← hB, ← hD]
    simp [itvEqB])
  rw [HV.out]
  clear HV hB hD
  cases on <;> cases on' <;> cases B <;> cases D
  all_goals
    go_enter Tryz.func144, Tryz.ntmps144
    go_wp2_with (first | ((with_reducible refine (HC.out _ (gr)).mono ?_); rintro e w' ⟨rfl, g'⟩; (first | obtain ⟨y, rfl⟩ := ext_cold g' | obtain ⟨y, rfl⟩ := ext_col g' | obtain ⟨y, rfl⟩ := ext_of g'); clear g') | ((with_reducible refine (HC2.out _).mono ?_); rintro e w' ⟨rfl, g'⟩; (first | obtain ⟨z, rfl⟩ := ext_cold g' | obtain ⟨z, rfl⟩ := ext_col g' | obtain ⟨z, rfl⟩ := ext_of g'); clear g'))
    go_ret
    refine ⟨rfl, ?_⟩
    exact gr

end Go.Proofs.YtdddhnepanjmfaaGreat

/- The laws' own comparison of states: two that are the same. No condition. -/
namespace Go.Proofs.YtdddhnepanjmfaaGreat
open Go.RowKit
set_option linter.unusedVariables false
attribute [local go_sem] ext_cell ext_frozen ext_lt ext_le ext_le1 lt_s2 lt_s3 lt_s4 lt_s5 lt_s6 ext_lt1 ext_lt2 ext_lt3

theorem itvNeqS (lo hi : Int) (w : World) : (binOp .neq 98 (.agg #[.int .i64 lo, .int .i64 hi]) (.agg #[.int .i64 lo, .int .i64 hi])).run Tryz.prog w = .ok (.bool false) w := by simp [go_sem]
section
attribute [local go_sem ↓] itvNeqS
end
end Go.Proofs.YtdddhnepanjmfaaGreat

/- readState of a state that is on and ok. No condition. -/
namespace Go.Proofs.YtdddhnepanjmfaaGreat
open Go.RowKit
set_option linter.unusedVariables false
attribute [local go_sem] ext_cell ext_frozen ext_lt ext_le ext_le1 lt_s2 lt_s3 lt_s4 lt_s5 lt_s6 ext_lt1 ext_lt2 ext_lt3

set_option maxHeartbeats 2000000 in
theorem readState4 (a : Option Addr) (c : Nat) (x0 x1 x2 x3 : Itv) (lo hi : Int) (w : World) (hr : RdL EItv 2 w a 4 [x0, x1, x2, x3]) (hok : itvOkB lo hi = true) (hall : [x0, x1, x2, x3].all itvB = true) (hc : 4 ≤ c) :
    Calls Tryz.prog 57 #[.agg #[.bool true, .slice a 4 c, .int .i64 lo, .int .i64 hi]] w fun e w' => ∃ b, e = .returned (.tuple #[.pointer (some ⟨b, 0, none⟩), .bool true]) ∧ w.heap.size ≤ b ∧ Grew w w' ∧
      Blk w' b 165 #[.int .i64 x0.lo, .int .i64 x0.hi, .int .i64 x1.lo, .int .i64 x1.hi, .int .i64 x2.lo, .int .i64 x2.hi, .int .i64 x3.lo, .int .i64 x3.hi, .int .i64 lo, .int .i64 hi] := by
  obtain ⟨b, off, y0l, y0h, rfl, e0, c0, c1, hb⟩ := rdItv_at hr (k := 0) (by omega)
  obtain ⟨b1, off1, y1l, y1h, hb1, e1, c2, c3, -⟩ := rdItv_at hr (k := 1) (by omega)
  obtain ⟨b2, off2, y2l, y2h, hb2, e2, c4, c5, -⟩ := rdItv_at hr (k := 2) (by omega)
  obtain ⟨b3, off3, y3l, y3h, hb3, e3, c6, c7, -⟩ := rdItv_at hr (k := 3) (by omega)
  simp only [Option.some.injEq, Addr.mk.injEq, and_true] at hb1 hb2 hb3
  obtain ⟨rfl, rfl⟩ := hb1
  obtain ⟨rfl, rfl⟩ := hb2
  obtain ⟨rfl, rfl⟩ := hb3
  simp only [List.getElem?_cons_zero, List.getElem?_cons_succ, Option.some.injEq] at e0 e1 e2 e3
  subst e0 e1 e2 e3
  obtain ⟨q0, q1, q2⟩ := lt3 hb
  have C := fun w => itvOk lo hi w
  rw [hok] at C
  have D := fun W (h : Grew w W) => containsFuncItv (some ⟨b, off, none⟩) 4 c _ W (hr.grew staysItv h) (by omega)
  rw [hall] at D
  have HC := Lib.hid C; clear C
  have HD := Lib.hid D; clear D hr hall hok
  simp only [Nat.zero_mul, Nat.add_zero, Nat.one_mul, Nat.reduceMul, Nat.add_assoc, Nat.reduceAdd] at c0 c1 c2 c3 c4 c5 c6 c7
  go_enter Tryz.func57, Tryz.ntmps57
  go_wp2_with (first | ((with_reducible refine (HC.out _).mono ?_); rintro e w' ⟨rfl, g'⟩; (first | obtain ⟨y, rfl⟩ := ext_cold g' | obtain ⟨y, rfl⟩ := ext_col g' | obtain ⟨y, rfl⟩ := ext_of g'); clear g') | ((with_reducible refine (HD.out _ (gr)).mono ?_); rintro e w' ⟨rfl, g'⟩; (first | obtain ⟨z, rfl⟩ := ext_cold g' | obtain ⟨z, rfl⟩ := ext_col g' | obtain ⟨z, rfl⟩ := ext_of g'); clear g'))
  have hat : ∀ W : World, (Instr.arrayAt 163 (.slice (some ⟨b, off, none⟩) 4 c)).run Tryz.prog W = .ok (.pointer (some ⟨b, off, none⟩)) W := fun W => by kernel_rfl
  go_region
  all_goals
    go_wp2
    go_ret2
    refine ⟨_, rfl, ?_, ?_, ?_⟩
    · have h1 := ext_size _ z
      simp only [World.size_alloc] at h1
      omega
    · exact gr
    · first | exact Blk.new _ _ _ | exact (Blk.new _ _ _).grew (grew_d (Below.refl _ _))
end Go.Proofs.YtdddhnepanjmfaaGreat
