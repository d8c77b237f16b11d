/- The draws of any procedure, and of a program. No condition. -/
import Derived.Test.YtcdfomoglkhboaaGreatDoorDrC
import Derived.Test.YtcdfomoglkhboaaGreatDoorDrH
namespace Go.Proofs.YtcdfomoglkhboaaGreatDoor
open Go.RowKit
set_option linter.unusedVariables false
set_option linter.unusedSimpArgs false
attribute [local go_sem] dg_cell dg_frozen dg_lt dg_lt1 dg_lt2 dg_ne dg_ne1 dg_ne2 dg_new dg_wen lt_s2 lt_s3 lt_s4 lt_s5 lt_s6

set_option maxRecDepth 100000 in
set_option maxHeartbeats 1000000 in
theorem anyG {g P : Nat} {k procs : Int} {w : World} (h : RdLe w g P) (hp : P + 500 ≤ 1099511627776) (hk1 : procs ≤ 1099511627776) :
    Calls Tryz.prog 96 #[.pointer (some ⟨g, 0, none⟩), .int .i64 k, .int .i64 procs] w (RetPrc g (P + 402) w.heap.size w) := by
  have lt0 := h.lt
  obtain ⟨ne0, ne1, ne2, ne3, ne4, ne5⟩ : ¬ w.heap.size = g ∧ ¬ w.heap.size + 1 = g ∧ ¬ w.heap.size + 1 + 1 = g ∧ ¬ w.heap.size + 1 + 1 + 1 = g ∧ ¬ w.heap.size + 1 + 1 + 1 + 1 = g ∧ ¬ w.heap.size + 1 + 1 + 1 + 1 + 1 = g := by omega
  have HP := Lib.hid h; clear h
  go_enter Tryz.func96, Tryz.ntmps96
  go_wp2_with fail
  refine Calls.mono (pickG (k := 6) (P := P) (g_rd) (by omega) (by omega)) ?_
  rintro e w1 ⟨v, rfl, ⟨u1, rfl, hu1⟩, hr, hc⟩
  have C1 := Lib.hid (ChgG.trans (chg_al (ChgG.refl g w) (.cells Zp 56)) hc)
  have Z1 := Lib.hid ((Blk.new w 56 Zp).chg hc ne0)
  have R1 := Lib.hid hr
  clear hr hc HP
  by_cases h0 : u1 = 0
  · subst h0
    have q0 : (((0 : Nat) : Int) == 0) = true := by decide
    go_wp2_with fail
    refine Calls.mono (loopG R1.out (by omega)) ?_
    rintro e w3 ⟨lo, hi, v, is, rfl, ho, hl, hr, hc⟩
    obtain ⟨a, cap, rfl⟩ := owns_slice ho
    have Z3 := Lib.hid (Z1.out.chg hc ne0)
    have C3 := Lib.hid (C1.out.trans hc)
    have R3 := Lib.hid hr
    have O3 := Lib.hid (owns_mono ho C1.out.size)
    have HL := Lib.hid hl
    have z0 : w3.cell? ⟨w.heap.size, 0, none⟩ = some (.int .i64 0) := Z3.out.cell 0
    have z1 : w3.cell? ⟨w.heap.size, 1, none⟩ = some (.int .i64 0) := Z3.out.cell 1
    have z2 : w3.cell? ⟨w.heap.size, 2, none⟩ = some (.slice none 0 0) := Z3.out.cell 2
    have zf := fun j => Z3.out.frozen j
    have zl := Z3.out.lt
    clear ho hl hr hc
    go_wp2
    refine bodyPost_ret (by simp [results, Tryz.results96, go_sem, z0, z1, z2, zl]; try rfl) rfl ?_
    have hno : (Value.slice a is.length cap).ownBlock ≠ some w.heap.size := fun e => blk_ne Z3.out O3.out (by decide) e
    refine ⟨_, _, _, is, rfl, owns_far (owns_far (owns_far O3.out hno _) hno _) hno _, HL.out, ?_, ?_⟩
    · exact (rd_set (rd_set (rd_set R3.out (by simp only; omega) _) (by simp only; omega) _) (by simp only; omega) _).mono (by omega)
    · exact chg_set (chg_set (chg_set C3.out (Nat.le_refl _) _) (Nat.le_refl _) _) (Nat.le_refl _) _
  by_cases h1 : u1 = 1
  · subst h1
    go_wp2_with fail
    refine Calls.mono (pickG (k := procs) R1.out (by omega) (by omega)) ?_
    rintro e w2 ⟨v, rfl, ⟨u2, rfl, hu2⟩, hr, hc⟩
    have Z2 := Lib.hid (Z1.out.chg hc ne0)
    have C2 := Lib.hid (C1.out.trans hc)
    have R2 := Lib.hid hr
    clear hr hc Z1 C1 R1
    go_wp2_with fail
    refine Calls.mono (deepG R2.out (by omega)) ?_
    rintro e w3 ⟨lo, hi, v, is, rfl, ho, hl, hr, hc⟩
    obtain ⟨a, cap, rfl⟩ := owns_slice ho
    have Z3 := Lib.hid (Z2.out.chg hc ne0)
    have C3 := Lib.hid (C2.out.trans hc)
    have R3 := Lib.hid hr
    have O3 := Lib.hid (owns_mono ho C2.out.size)
    have HL := Lib.hid hl
    have z0 : w3.cell? ⟨w.heap.size, 0, none⟩ = some (.int .i64 0) := Z3.out.cell 0
    have z1 : w3.cell? ⟨w.heap.size, 1, none⟩ = some (.int .i64 0) := Z3.out.cell 1
    have z2 : w3.cell? ⟨w.heap.size, 2, none⟩ = some (.slice none 0 0) := Z3.out.cell 2
    have zf := fun j => Z3.out.frozen j
    have zl := Z3.out.lt
    clear ho hl hr hc
    go_wp2
    refine bodyPost_ret (by simp [results, Tryz.results96, go_sem, z0, z1, z2, zl]; try rfl) rfl ?_
    have hno : (Value.slice a is.length cap).ownBlock ≠ some w.heap.size := fun e => blk_ne Z3.out O3.out (by decide) e
    refine ⟨_, _, _, is, rfl, owns_far (owns_far (owns_far O3.out hno _) hno _) hno _, HL.out, ?_, ?_⟩
    · exact (rd_set (rd_set (rd_set R3.out (by simp only; omega) _) (by simp only; omega) _) (by simp only; omega) _).mono (by omega)
    · exact chg_set (chg_set (chg_set C3.out (Nat.le_refl _) _) (Nat.le_refl _) _) (Nat.le_refl _) _
  by_cases h2 : u1 = 2
  · subst h2
    go_wp2_with fail
    refine Calls.mono (callsG R1.out (by omega) hk1) ?_
    rintro e w3 ⟨lo, hi, v, is, rfl, ho, hl, hr, hc⟩
    obtain ⟨a, cap, rfl⟩ := owns_slice ho
    have Z3 := Lib.hid (Z1.out.chg hc ne0)
    have C3 := Lib.hid (C1.out.trans hc)
    have R3 := Lib.hid hr
    have O3 := Lib.hid (owns_mono ho C1.out.size)
    have HL := Lib.hid hl
    have z0 : w3.cell? ⟨w.heap.size, 0, none⟩ = some (.int .i64 0) := Z3.out.cell 0
    have z1 : w3.cell? ⟨w.heap.size, 1, none⟩ = some (.int .i64 0) := Z3.out.cell 1
    have z2 : w3.cell? ⟨w.heap.size, 2, none⟩ = some (.slice none 0 0) := Z3.out.cell 2
    have zf := fun j => Z3.out.frozen j
    have zl := Z3.out.lt
    clear ho hl hr hc
    go_wp2
    refine bodyPost_ret (by simp [results, Tryz.results96, go_sem, z0, z1, z2, zl]; try rfl) rfl ?_
    have hno : (Value.slice a is.length cap).ownBlock ≠ some w.heap.size := fun e => blk_ne Z3.out O3.out (by decide) e
    refine ⟨_, _, _, is, rfl, owns_far (owns_far (owns_far O3.out hno _) hno _) hno _, HL.out, ?_, ?_⟩
    · exact (rd_set (rd_set (rd_set R3.out (by simp only; omega) _) (by simp only; omega) _) (by simp only; omega) _).mono (by omega)
    · exact chg_set (chg_set (chg_set C3.out (Nat.le_refl _) _) (Nat.le_refl _) _) (Nat.le_refl _) _
  have q0 : ((u1 : Int) == 0) = false := by simp; omega
  have q1 : ((u1 : Int) == 1) = false := by simp; omega
  have q2 : ((u1 : Int) == 2) = false := by simp; omega
  go_wp2_with fail
  refine Calls.mono (procG R1.out (by omega) hk1) ?_
  rintro e w3 ⟨lo, hi, v, is, rfl, ho, hl, hr, hc⟩
  obtain ⟨a, cap, rfl⟩ := owns_slice ho
  have Z3 := Lib.hid (Z1.out.chg hc ne0)
  have C3 := Lib.hid (C1.out.trans hc)
  have R3 := Lib.hid hr
  have O3 := Lib.hid (owns_mono ho C1.out.size)
  have HL := Lib.hid hl
  have z0 : w3.cell? ⟨w.heap.size, 0, none⟩ = some (.int .i64 0) := Z3.out.cell 0
  have z1 : w3.cell? ⟨w.heap.size, 1, none⟩ = some (.int .i64 0) := Z3.out.cell 1
  have z2 : w3.cell? ⟨w.heap.size, 2, none⟩ = some (.slice none 0 0) := Z3.out.cell 2
  have zf := fun j => Z3.out.frozen j
  have zl := Z3.out.lt
  clear ho hl hr hc
  go_wp2
  refine bodyPost_ret (by simp [results, Tryz.results96, go_sem, z0, z1, z2, zl]; try rfl) rfl ?_
  have hno : (Value.slice a is.length cap).ownBlock ≠ some w.heap.size := fun e => blk_ne Z3.out O3.out (by decide) e
  refine ⟨_, _, _, is, rfl, owns_far (owns_far (owns_far O3.out hno _) hno _) hno _, HL.out, ?_, ?_⟩
  · exact (rd_set (rd_set (rd_set R3.out (by simp only; omega) _) (by simp only; omega) _) (by simp only; omega) _).mono (by omega)
  · exact chg_set (chg_set (chg_set C3.out (Nat.le_refl _) _) (Nat.le_refl _) _) (Nat.le_refl _) _
end Go.Proofs.YtcdfomoglkhboaaGreatDoor
