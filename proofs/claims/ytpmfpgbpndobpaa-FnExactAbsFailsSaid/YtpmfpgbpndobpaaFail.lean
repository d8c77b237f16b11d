/- May an instruction fail in a state: plain, and contracts of small functions. No condition. -/
import Derived.Test.YtpmfpgbpndobpaaStN
import Derived.Test.YtpmfpgbpndobpaaRelN
import Derived.Test.YtpmfpgbpndobpaaPrgOkI
namespace Go.Proofs.Ytpmfpgbpndobpaa
open Go.RowKit
set_option linter.unusedVariables false
set_option linter.unusedSimpArgs false
attribute [local go_sem] ext_cell ext_frozen ext_lt ext_le ext_le1 lt_s2 lt_s3 lt_s4 lt_s5 lt_s6 ext_lt1 ext_lt2 ext_lt3

def nthI (xs : List Itv) (k : Int) : Itv := xs.getD k.toNat ⟨0, 0⟩
def prcI (ps : List Prc) (k : Int) : Itv := match ps[k.toNat]? with
  | some p => ⟨p.lo, p.hi⟩
  | none => ⟨0, 0⟩
/-- May a valid instruction fail. -/
def failsB (ps : List Prc) (i : Ins) (xs : List Itv) : Bool :=
  if i.op = 4 then inB (nthI xs i.b).lo (nthI xs i.b).hi 0
  else if i.op = 6 ∨ i.op = 7 then !inI (nthI xs i.a) ⟨0, 3⟩
  else if i.op = 10 then !inI (nthI xs i.a) (prcI ps i.to)
  else if i.op = 11 then (notI i.rel (nthI xs i.a) (nthI xs i.b)).isSome
  else false
def absFailsB (ps : List Prc) (i : Ins) (on : Bool) (xs : List Itv) (lo hi : Int) : Bool :=
  (stOkB on xs lo hi && on) && (prgOkB ps && (insOkB i ps.length 10 && failsB ps i xs))

theorem nthI_get {xs : List Itv} (h4 : xs.length = 4) {k : Int} (hk : varB k = true) : ∃ j : Nat, k = j ∧ j < 4 ∧ xs[j]? = some (nthI xs k) := by
  simp only [varB, Bool.and_eq_true, decide_eq_true_eq] at hk
  obtain ⟨j, rfl⟩ := Int.eq_ofNat_of_zero_le hk.1
  have hj : j < 4 := by omega
  refine ⟨j, rfl, hj, ?_⟩
  simp only [nthI, Int.toNat_natCast, List.getD_eq_getElem?_getD]
  rw [List.getElem?_eq_getElem (by omega)]
  rfl
theorem nthI_ok {xs : List Itv} {lo hi : Int} (h : stOkB true xs lo hi = true) {k : Int} (hk : varB k = true) : itvB (nthI xs k) = true := by
  have h4 : xs.length = 4 := by obtain ⟨_, x0, x1, x2, x3, rfl, _⟩ := st_four h; rfl
  obtain ⟨j, _, _, hj⟩ := nthI_get h4 hk
  exact itvB_all h _ (List.mem_of_getElem? hj)
theorem prgOk_prc {ps : List Prc} (h : prgOkB ps = true) {p : Prc} (hp : p ∈ ps) : itvB ⟨p.lo, p.hi⟩ = true := by
  simp only [prgOkB, Bool.and_eq_true, List.all_eq_true] at h
  have := h.2 p hp
  simp only [prcOkB, Bool.and_eq_true] at this
  exact this.1.1.1
theorem prcI_get {ps : List Prc} {k : Int} (h0 : 0 ≤ k) (hn : k < ps.length) : ∃ (j : Nat) (p : Prc), k = j ∧ j < ps.length ∧ ps[j]? = some p ∧ prcI ps k = ⟨p.lo, p.hi⟩ := by
  obtain ⟨j, rfl⟩ := Int.eq_ofNat_of_zero_le h0
  have hj : j < ps.length := by omega
  refine ⟨j, ps[j], rfl, hj, List.getElem?_eq_getElem hj, ?_⟩
  simp only [prcI, Int.toNat_natCast, List.getElem?_eq_getElem hj]

theorem implCellIndexes (w : World) : Calls Try.prog 52 #[] w fun e w' => e = .returned (.agg #[.int .i64 0, .int .i64 3]) ∧ Grew w w' := by
  go_enter Try.func52, Try.ntmps52
  go_wp2
  go_returns
  exact ⟨rfl, by unfold Grew; go_grown⟩
theorem specL7Places (w : World) : Calls Try.prog 18 #[] w fun e w' => e = .returned (.agg #[.int .i64 0, .int .i64 3]) ∧ Grew w w' := by
  go_enter Try.func18, Try.ntmps18
  go_wp2
  go_returns
  exact ⟨rfl, by unfold Grew; go_grown⟩
theorem specItvIn (a b : Itv) (w : World) (ha : itvB a = true) (hb : itvB b = true) :
    Calls Try.prog 17 #[a.v, b.v] w fun e w' => e = .returned (.bool (inI a b)) ∧ Grew w w' := by
  have hA := fun W => specItvOk a W
  have hB := fun W => specItvOk b W
  rw [show itvOkB a.lo a.hi = true from ha] at hA
  rw [show itvOkB b.lo b.hi = true from hb] at hB
  have HA := Lib.hid hA
  have HB := Lib.hid hB
  clear hA hB ha hb
  obtain ⟨al, ah⟩ := a
  obtain ⟨bl, bh⟩ := b
  dsimp only [Itv.v] at HA HB ⊢
  by_cases h1 : bl ≤ al
  · by_cases h2 : ah ≤ bh
    all_goals
      go_enter Try.func17, Try.ntmps17
      go_wp2_with (first | ((with_reducible refine (HA.out _).mono ?_); rintro e w' ⟨rfl, g'⟩; (first | obtain ⟨y, rfl⟩ := ext_cold g' | obtain ⟨y, rfl⟩ := ext_col g' | obtain ⟨y, rfl⟩ := ext_of g'); clear g') | ((with_reducible refine (HB.out _).mono ?_); rintro e w' ⟨rfl, g'⟩; (first | obtain ⟨z, rfl⟩ := ext_cold g' | obtain ⟨z, rfl⟩ := ext_col g' | obtain ⟨z, rfl⟩ := ext_of g'); clear g'))
      go_ret
      refine ⟨by simp [inI, h1, h2], ?_⟩
      repeat (first | with_reducible exact Below.refl _ _ | with_reducible assumption | with_reducible apply grew_ext | with_reducible apply grew_al | with_reducible apply grew_dn | with_reducible apply grew_d | (with_reducible refine grew_set ?_ (by first | omega | (repeat (first | with_reducible exact Nat.le_refl _ | with_reducible apply le_pl | with_reducible apply le_ext | with_reducible apply le_al))) _))
  · go_enter Try.func17, Try.ntmps17
    go_wp2_with (first | ((with_reducible refine (HA.out _).mono ?_); rintro e w' ⟨rfl, g'⟩; (first | obtain ⟨y, rfl⟩ := ext_cold g' | obtain ⟨y, rfl⟩ := ext_col g' | obtain ⟨y, rfl⟩ := ext_of g'); clear g') | ((with_reducible refine (HB.out _).mono ?_); rintro e w' ⟨rfl, g'⟩; (first | obtain ⟨z, rfl⟩ := ext_cold g' | obtain ⟨z, rfl⟩ := ext_col g' | obtain ⟨z, rfl⟩ := ext_of g'); clear g'))
    go_ret
    refine ⟨by (simp [inI]; omega), ?_⟩
    repeat (first | with_reducible exact Below.refl _ _ | with_reducible assumption | with_reducible apply grew_ext | with_reducible apply grew_al | with_reducible apply grew_dn | with_reducible apply grew_d | (with_reducible refine grew_set ?_ (by first | omega | (repeat (first | with_reducible exact Nat.le_refl _ | with_reducible apply le_pl | with_reducible apply le_ext | with_reducible apply le_al))) _))
theorem specL7Given (a : Option Addr) (n c : Nat) (ps : List Prc) (i : Ins) (w : World) (hr : RdP w a n ps) (hn : n ≤ 9223372036854775807) (h0 : 0 ≤ i.to) (h1 : i.to < n) :
    Calls Try.prog 19 #[.agg #[.slice a n c], i.v] w fun e w' => e = .returned (prcI ps i.to).v ∧ Grew w w' := by
  obtain ⟨op, d, ia, ib, rel, ilo, ihi, to⟩ := i
  simp only at h0 h1
  obtain ⟨k, p, rfl, hk, hp, he⟩ := prcI_get h0 (by rw [hr.len]; exact h1)
  simp only
  rw [he]
  have hk' : k < n := by omega
  obtain ⟨b, off, lo, hi, is, pa, pc, rfl, hx, c0, c1, c2, hb, hi1, hi2, hi3⟩ := rdP_at hr hk'
  rw [hx] at hp
  cases hp
  clear hr he hx hi1 hi2 hi3 hk
  have hb1 : b < w.heap.size + 1 := by omega
  have hb2 : b < w.heap.size + 1 + 1 := by omega
  go_enter Try.func19, Try.ntmps19
  go_wp2_with fail
  go_region
  go_wp2
  go_returns
  exact ⟨rfl, by unfold Grew; go_grown⟩
end Go.Proofs.Ytpmfpgbpndobpaa
