/- What the laws mark in memory, and that the marks are held. No condition. -/
import Derived.Test.YtcdfomoglkhboaaDoorGlue
namespace Go.Proofs.YtcdfomoglkhboaaDoor
open Go.RowKit
set_option linter.unusedVariables false
attribute [local go_sem] ext_cell ext_frozen ext_lt ext_le ext_le1 lt_s2 lt_s3 lt_s4 lt_s5 lt_s6 ext_lt1 ext_lt2 ext_lt3

/-- What marking writes: the numbers from k on. -/
def markI (k m : Nat) : List Value := (List.range m).map fun j => .int .i64 ((k + j : Nat) : Int)
theorem markI_len (k m : Nat) : (markI k m).length = m := by simp [markI]
theorem markI_get (k m j : Nat) (h : j < m) : (markI k m)[j]? = some (.int .i64 ((k + j : Nat) : Int)) := by simp [markI, h]
theorem mark_step {k0 k C N : Nat} {ys : List Value} (hl : ys.length = N) (hN : k * C + C ≤ N) (cs : List Value) (hcl : cs.length = C) (hcs : ∀ r, r < C → cs[r]? = some (.int .i64 ((k0 + k * C + r : Nat) : Int)))
    (h : ∀ j, j < k * C → ys[j]? = (markI k0 N)[j]?) : ∀ j, j < (k + 1) * C → (sets ys (k * C) cs)[j]? = (markI k0 N)[j]? := by
  intro j hj
  rw [Nat.succ_mul] at hj
  rw [sets_get _ _ _ _ (by omega), hcl]
  by_cases h1 : j < k * C
  · rw [if_neg (by omega)]
    exact h j h1
  · rw [if_pos (by omega), hcs _ (by omega), markI_get _ _ _ (by omega), show k0 + k * C + (j - k * C) = k0 + j from by omega]
theorem mark_all {k0 C n : Nat} {ys : List Value} (hl : ys.length = n * C) (h : ∀ j, j < n * C → ys[j]? = (markI k0 (n * C))[j]?) : ys = markI k0 (n * C) := by
  apply List.ext_getElem?
  intro j
  by_cases hj : j < n * C
  · exact h j hj
  · rw [List.getElem?_eq_none (by omega), List.getElem?_eq_none (by rw [markI_len]; omega)]

set_option maxHeartbeats 4000000 in
theorem markInsInsS (a : Option Addr) (n cap : Nat) (k0 : Nat) (cs : List Value) (B : Nat) (w : World) (ho : w.ownsRow B 25 8 (.slice a n cap) n cs) (hk0 : k0 ≤ 1125899906842624) (hm : n ≤ 1099511627776) :
    Calls Tryd.prog 59 #[.slice a n cap, .int .i64 k0] w fun e w' => e = .returned (.int .i64 ((k0 + n * 8 : Nat) : Int)) ∧
      w'.ownsRow B 25 8 (.slice a n cap) n (markI k0 (n * 8)) ∧ Chg (fun b => (Value.slice a n cap).ownBlock = some b) w w' := by
  have HO := Lib.hid ho; clear ho
  go_enter Tryd.func59, Tryd.ntmps59
  go_wp2
  go_loopw [1, 5] (fun kk i wr => ∃ k K : Nat, k ≤ n ∧ K = k0 + k * 8 ∧ i = .int .i64 k ∧ kk = .int .i64 K ∧ Chg (fun b => (Value.slice a n cap).ownBlock = some b) w wr ∧
    ∃ ys, wr.ownsRow B 25 8 (.slice a n cap) n ys ∧ ∀ j, j < k * 8 → ys[j]? = (markI k0 (n * 8))[j]?) (fun _ i _ => n - (intOf i).toNat)
  case atStart => exact ⟨0, k0, Nat.zero_le _, by omega, rfl, rfl, Chg.refl _ _, _, HO.out, fun j hj => absurd hj (by omega)⟩
  case round =>
    obtain ⟨k, K, hk, hK, rfl, rfl, hg, ys, how, hys⟩ := hrel
    have hK1 : K ≤ 1135000000000000 := by omega
    have HK := Lib.hid hK; clear hK
    by_cases hlt : k < n
    · obtain ⟨g, rfl⟩ : ∃ g, a = some ⟨g, 0, none⟩ := by
        rcases how.2 with ⟨h1, h2⟩ | ⟨g, cap', cur, h1, _⟩
        · omega
        · simp only [Value.slice.injEq] at h1
          exact ⟨g, h1.1⟩
      have HH := Lib.hid hys; clear hys
      have HG := Lib.hid hg; clear hg
      have HW := Lib.hid how; clear how
      obtain ⟨y0, e0⟩ := own_some HW.out (j := k * 8) (by omega)
      obtain ⟨y1, e1⟩ := own_some HW.out (j := k * 8 + 1) (by omega)
      obtain ⟨y2, e2⟩ := own_some HW.out (j := k * 8 + 2) (by omega)
      obtain ⟨y3, e3⟩ := own_some HW.out (j := k * 8 + 3) (by omega)
      obtain ⟨y4, e4⟩ := own_some HW.out (j := k * 8 + 4) (by omega)
      obtain ⟨y5, e5⟩ := own_some HW.out (j := k * 8 + 5) (by omega)
      obtain ⟨y6, e6⟩ := own_some HW.out (j := k * 8 + 6) (by omega)
      obtain ⟨y7, e7⟩ := own_some HW.out (j := k * 8 + 7) (by omega)
      have f0 := fun j => HW.out.frozenAt j
      go_wp2
      go_roundw
      case rel =>
        have hK := HK.out
        obtain ⟨ho', hg'⟩ := own_sets ([.int .i64 (K : Int), .int .i64 ((K : Int) + 1), .int .i64 ((K : Int) + 1 + 1), .int .i64 ((K : Int) + 1 + 1 + 1), .int .i64 ((K : Int) + 1 + 1 + 1 + 1), .int .i64 ((K : Int) + 1 + 1 + 1 + 1 + 1), .int .i64 ((K : Int) + 1 + 1 + 1 + 1 + 1 + 1), .int .i64 ((K : Int) + 1 + 1 + 1 + 1 + 1 + 1 + 1)]) _ _ (k * 8) HW.out
        refine ⟨k + 1, K + 8, by omega, by omega, by go_num, by go_num, (HG.out.trans (Chg.of_grownBy hg') (fun _ _ h => h) (fun i _ h => h)), _, ho', mark_step HW.out.1 (by omega) _ rfl (fun r hr => ?_) HH.out⟩
        match r, hr with
          | 0, _ => rw [← hK]; rfl
          | 1, _ => rw [← hK]; rfl
          | 2, _ => rw [← hK]; rfl
          | 3, _ => rw [← hK]; rfl
          | 4, _ => rw [← hK]; rfl
          | 5, _ => rw [← hK]; rfl
          | 6, _ => rw [← hK]; rfl
          | 7, _ => rw [← hK]; rfl
      case measure => simp [intOf]; omega
    · obtain rfl : k = n := by omega
      have hfin := mark_all how.1 hys
      subst hfin
      clear hys
      have HW := Lib.hid how; clear how
      have HG := Lib.hid hg; clear hg
      go_wp2
      go_ret
      exact ⟨by rw [HK.out]; rfl, HW.out, HG.out⟩

end Go.Proofs.YtcdfomoglkhboaaDoor