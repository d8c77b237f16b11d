/- The draws of a step with something wrong, and of a step and its place. No condition. -/
import Derived.Test.YtcdfomoglkhboaaGreatDoorDrN
import Derived.Test.YtcdfomoglkhboaaGreatDoorDrQ
namespace Go.Proofs.YtcdfomoglkhboaaGreatDoor
open Go.RowKit
set_option linter.unusedVariables false
set_option linter.unusedSimpArgs false
attribute [local go_sem] dg_cell dg_frozen dg_lt dg_lt1 dg_lt2 dg_ne dg_ne1 dg_ne2 dg_new dg_wen lt_s2 lt_s3 lt_s4 lt_s5 lt_s6

section
variable {ops : Array Oper} {Q : Exit → Act → World → Prop} {a0 : Act} {g PP : Nat} {c : Nat → Nat} {J : World → Prop} {F : Nat → Prop} {R : Nat → World → Value → Prop} {i : Nat} {o : Oper}
end

set_option maxRecDepth 100000 in
set_option maxHeartbeats 4000000 in
theorem spoilG {g P : Nat} {i : Value} {w : World} (h : RdLe w g P) (hi : IsIns i) (hp : P + 2 ≤ 1099511627776) :
    Calls Tryz.prog 56 #[.pointer (some ⟨g, 0, none⟩), i] w (RetG IsIns g (P + 2) w) := by
  obtain ⟨op, d, ia, ib, rel, lo, hi2, to, rfl⟩ := hi
  have lt0 := h.lt
  obtain ⟨ne0, ne1, ne2, ne3, ne4, ne5⟩ : ¬ w.heap.size = g ∧ ¬ w.heap.size + 1 = g ∧ ¬ w.heap.size + 1 + 1 = g ∧ ¬ w.heap.size + 1 + 1 + 1 = g ∧ ¬ w.heap.size + 1 + 1 + 1 + 1 = g ∧ ¬ w.heap.size + 1 + 1 + 1 + 1 + 1 = g := by omega
  have HP := Lib.hid h; clear h
  have n67 : ¬ w.heap.size = w.heap.size + 1 := by omega
  have n76 : ¬ w.heap.size + 1 = w.heap.size := by omega
  go_enter Tryz.func56, Tryz.ntmps56
  go_wp2_with fail
  refine Calls.mono (pickG (k := 7) (g_rd) (by omega) (by omega)) ?_
  rintro e w1 ⟨v, rfl, ⟨j, rfl, hj⟩, hr1, hc1⟩
  have hj := hj (by omega)
  have C1 := Lib.hid (ChgG.trans (a := w) (g_chg) hc1)
  have B6 := Lib.hid (BoxN.chg (t := w.heap.size) (g_boxN) hc1 ne0)
  have B7 := Lib.hid (BoxN.chg (t := w.heap.size + 1) (g_boxN) hc1 ne1)
  have R1 := Lib.hid hr1
  have l7 := B7.out.lt
  have l1g := hr1.lt
  clear hr1 hc1 HP
  have hj7 : j = 0 ∨ j = 1 ∨ j = 2 ∨ j = 3 ∨ j = 4 ∨ j = 5 ∨ j = 6 := by omega
  rcases hj7 with rfl | rfl | rfl | rfl | rfl | rfl | rfl
  · go_wp2_with fail
    refine Calls.mono (pickG (k := 3) (g_rd) (by omega) (by omega)) ?_
    rintro e w2 ⟨v, rfl, ⟨u, rfl, hu⟩, hr2, hc2⟩
    have hu := hu (by omega)
    obtain ⟨yu, hyu, hlu⟩ := lit_get [0, 13, -1] (j := u) (by simp only [List.length_cons, List.length_nil]; omega)
    have nb : ¬ w1.heap.size = g := by omega
    have hcl : w2.cell? ⟨w1.heap.size, u, none⟩ = some (.int .i64 yu) := (((Blk.new w1 3 (ints .i64 [0, 13, -1]).toArray).chg hc2 nb).cell u).trans (by simpa using hlu)
    have C2 := Lib.hid (ChgG.trans (a := w) (chg_al C1.out _) hc2)
    have D6 := Lib.hid ((B6.out.al (.cells (ints .i64 [0, 13, -1]).toArray 3)).chg hc2 ne0)
    have D7 := Lib.hid ((B7.out.al (.cells (ints .i64 [0, 13, -1]).toArray 3)).chg hc2 ne1)
    have R2 := Lib.hid hr2
    clear hr2 hc2 C1 B6 B7 R1 hyu hlu
    have C1 := C2
    have B6 := D6
    have B7 := D7
    clear C2 D6 D7
    obtain ⟨u0, u1, u2, u3, u4, u5, u6, u7, c0, c1, c2, c3, c4, c5, c6, c7⟩ := B6.out.all
    obtain ⟨v0, v1, v2, v3, v4, v5, v6, v7, d0, d1, d2, d3, d4, d5, d6, d7⟩ := B7.out.all
    have f6 := B6.out.fz
    have f7 := B7.out.fz
    have l6 := B6.out.lt
    have l7 := B7.out.lt
    go_wp2
    refine body_boxN (t := w.heap.size + 1) (by have := B7.out; exact g_boxN) ?_
    rintro E hE x0 x1 x2 x3 x4 x5 x6 x7 e0 e1 e2 e3 e4 e5 e6 e7
    refine bodyPost_ret (by simp [results, Tryz.results56, go_sem, e0, e1, e2, e3, e4, e5, e6, e7]; try rfl) rfl ?_
    rw [hE]
    refine ⟨_, rfl, ⟨_, _, _, _, _, _, _, _, rfl⟩, RdLe.mono (g_rd) (by omega), by have := C1.out; exact g_chg⟩
  · go_wp2_with fail
    refine Calls.mono (pickG (k := 2) (g_rd) (by omega) (by omega)) ?_
    rintro e w2 ⟨v, rfl, ⟨u, rfl, hu⟩, hr2, hc2⟩
    have hu := hu (by omega)
    obtain ⟨yu, hyu, hlu⟩ := lit_get [-1, 4] (j := u) (by simp only [List.length_cons, List.length_nil]; omega)
    have nb : ¬ w1.heap.size = g := by omega
    have hcl : w2.cell? ⟨w1.heap.size, u, none⟩ = some (.int .i64 yu) := (((Blk.new w1 3 (ints .i64 [-1, 4]).toArray).chg hc2 nb).cell u).trans (by simpa using hlu)
    have C2 := Lib.hid (ChgG.trans (a := w) (chg_al C1.out _) hc2)
    have D6 := Lib.hid ((B6.out.al (.cells (ints .i64 [-1, 4]).toArray 3)).chg hc2 ne0)
    have D7 := Lib.hid ((B7.out.al (.cells (ints .i64 [-1, 4]).toArray 3)).chg hc2 ne1)
    have R2 := Lib.hid hr2
    clear hr2 hc2 C1 B6 B7 R1 hyu hlu
    have C1 := C2
    have B6 := D6
    have B7 := D7
    clear C2 D6 D7
    obtain ⟨u0, u1, u2, u3, u4, u5, u6, u7, c0, c1, c2, c3, c4, c5, c6, c7⟩ := B6.out.all
    obtain ⟨v0, v1, v2, v3, v4, v5, v6, v7, d0, d1, d2, d3, d4, d5, d6, d7⟩ := B7.out.all
    have f6 := B6.out.fz
    have f7 := B7.out.fz
    have l6 := B6.out.lt
    have l7 := B7.out.lt
    go_wp2
    refine body_boxN (t := w.heap.size + 1) (by have := B7.out; exact g_boxN) ?_
    rintro E hE x0 x1 x2 x3 x4 x5 x6 x7 e0 e1 e2 e3 e4 e5 e6 e7
    refine bodyPost_ret (by simp [results, Tryz.results56, go_sem, e0, e1, e2, e3, e4, e5, e6, e7]; try rfl) rfl ?_
    rw [hE]
    refine ⟨_, rfl, ⟨_, _, _, _, _, _, _, _, rfl⟩, RdLe.mono (g_rd) (by omega), by have := C1.out; exact g_chg⟩
  · go_wp2_with fail
    refine Calls.mono (pickG (k := 3) (g_rd) (by omega) (by omega)) ?_
    rintro e w2 ⟨v, rfl, ⟨u, rfl, hu⟩, hr2, hc2⟩
    have hu := hu (by omega)
    obtain ⟨yu, hyu, hlu⟩ := lit_get [-1, 4, 1] (j := u) (by simp only [List.length_cons, List.length_nil]; omega)
    have nb : ¬ w1.heap.size = g := by omega
    have hcl : w2.cell? ⟨w1.heap.size, u, none⟩ = some (.int .i64 yu) := (((Blk.new w1 3 (ints .i64 [-1, 4, 1]).toArray).chg hc2 nb).cell u).trans (by simpa using hlu)
    have C2 := Lib.hid (ChgG.trans (a := w) (chg_al C1.out _) hc2)
    have D6 := Lib.hid ((B6.out.al (.cells (ints .i64 [-1, 4, 1]).toArray 3)).chg hc2 ne0)
    have D7 := Lib.hid ((B7.out.al (.cells (ints .i64 [-1, 4, 1]).toArray 3)).chg hc2 ne1)
    have R2 := Lib.hid hr2
    clear hr2 hc2 C1 B6 B7 R1 hyu hlu
    have C1 := C2
    have B6 := D6
    have B7 := D7
    clear C2 D6 D7
    obtain ⟨u0, u1, u2, u3, u4, u5, u6, u7, c0, c1, c2, c3, c4, c5, c6, c7⟩ := B6.out.all
    obtain ⟨v0, v1, v2, v3, v4, v5, v6, v7, d0, d1, d2, d3, d4, d5, d6, d7⟩ := B7.out.all
    have f6 := B6.out.fz
    have f7 := B7.out.fz
    have l6 := B6.out.lt
    have l7 := B7.out.lt
    go_wp2
    refine body_boxN (t := w.heap.size + 1) (by have := B7.out; exact g_boxN) ?_
    rintro E hE x0 x1 x2 x3 x4 x5 x6 x7 e0 e1 e2 e3 e4 e5 e6 e7
    refine bodyPost_ret (by simp [results, Tryz.results56, go_sem, e0, e1, e2, e3, e4, e5, e6, e7]; try rfl) rfl ?_
    rw [hE]
    refine ⟨_, rfl, ⟨_, _, _, _, _, _, _, _, rfl⟩, RdLe.mono (g_rd) (by omega), by have := C1.out; exact g_chg⟩
  · go_wp2_with fail
    refine Calls.mono (pickG (k := 3) (g_rd) (by omega) (by omega)) ?_
    rintro e w2 ⟨v, rfl, ⟨u, rfl, hu⟩, hr2, hc2⟩
    have hu := hu (by omega)
    obtain ⟨yu, hyu, hlu⟩ := lit_get [-1, 4, 1] (j := u) (by simp only [List.length_cons, List.length_nil]; omega)
    have nb : ¬ w1.heap.size = g := by omega
    have hcl : w2.cell? ⟨w1.heap.size, u, none⟩ = some (.int .i64 yu) := (((Blk.new w1 3 (ints .i64 [-1, 4, 1]).toArray).chg hc2 nb).cell u).trans (by simpa using hlu)
    have C2 := Lib.hid (ChgG.trans (a := w) (chg_al C1.out _) hc2)
    have D6 := Lib.hid ((B6.out.al (.cells (ints .i64 [-1, 4, 1]).toArray 3)).chg hc2 ne0)
    have D7 := Lib.hid ((B7.out.al (.cells (ints .i64 [-1, 4, 1]).toArray 3)).chg hc2 ne1)
    have R2 := Lib.hid hr2
    clear hr2 hc2 C1 B6 B7 R1 hyu hlu
    have C1 := C2
    have B6 := D6
    have B7 := D7
    clear C2 D6 D7
    obtain ⟨u0, u1, u2, u3, u4, u5, u6, u7, c0, c1, c2, c3, c4, c5, c6, c7⟩ := B6.out.all
    obtain ⟨v0, v1, v2, v3, v4, v5, v6, v7, d0, d1, d2, d3, d4, d5, d6, d7⟩ := B7.out.all
    have f6 := B6.out.fz
    have f7 := B7.out.fz
    have l6 := B6.out.lt
    have l7 := B7.out.lt
    go_wp2
    refine body_boxN (t := w.heap.size + 1) (by have := B7.out; exact g_boxN) ?_
    rintro E hE x0 x1 x2 x3 x4 x5 x6 x7 e0 e1 e2 e3 e4 e5 e6 e7
    refine bodyPost_ret (by simp [results, Tryz.results56, go_sem, e0, e1, e2, e3, e4, e5, e6, e7]; try rfl) rfl ?_
    rw [hE]
    refine ⟨_, rfl, ⟨_, _, _, _, _, _, _, _, rfl⟩, RdLe.mono (g_rd) (by omega), by have := C1.out; exact g_chg⟩
  · go_wp2_with fail
    refine Calls.mono (pickG (k := 3) (g_rd) (by omega) (by omega)) ?_
    rintro e w2 ⟨v, rfl, ⟨u, rfl, hu⟩, hr2, hc2⟩
    have hu := hu (by omega)
    obtain ⟨yu, hyu, hlu⟩ := lit_get [-1, 5, 1] (j := u) (by simp only [List.length_cons, List.length_nil]; omega)
    have nb : ¬ w1.heap.size = g := by omega
    have hcl : w2.cell? ⟨w1.heap.size, u, none⟩ = some (.int .i64 yu) := (((Blk.new w1 3 (ints .i64 [-1, 5, 1]).toArray).chg hc2 nb).cell u).trans (by simpa using hlu)
    have C2 := Lib.hid (ChgG.trans (a := w) (chg_al C1.out _) hc2)
    have D6 := Lib.hid ((B6.out.al (.cells (ints .i64 [-1, 5, 1]).toArray 3)).chg hc2 ne0)
    have D7 := Lib.hid ((B7.out.al (.cells (ints .i64 [-1, 5, 1]).toArray 3)).chg hc2 ne1)
    have R2 := Lib.hid hr2
    clear hr2 hc2 C1 B6 B7 R1 hyu hlu
    have C1 := C2
    have B6 := D6
    have B7 := D7
    clear C2 D6 D7
    obtain ⟨u0, u1, u2, u3, u4, u5, u6, u7, c0, c1, c2, c3, c4, c5, c6, c7⟩ := B6.out.all
    obtain ⟨v0, v1, v2, v3, v4, v5, v6, v7, d0, d1, d2, d3, d4, d5, d6, d7⟩ := B7.out.all
    have f6 := B6.out.fz
    have f7 := B7.out.fz
    have l6 := B6.out.lt
    have l7 := B7.out.lt
    go_wp2
    refine body_boxN (t := w.heap.size + 1) (by have := B7.out; exact g_boxN) ?_
    rintro E hE x0 x1 x2 x3 x4 x5 x6 x7 e0 e1 e2 e3 e4 e5 e6 e7
    refine bodyPost_ret (by simp [results, Tryz.results56, go_sem, e0, e1, e2, e3, e4, e5, e6, e7]; try rfl) rfl ?_
    rw [hE]
    refine ⟨_, rfl, ⟨_, _, _, _, _, _, _, _, rfl⟩, RdLe.mono (g_rd) (by omega), by have := C1.out; exact g_chg⟩
  · go_wp2_with fail
    refine Calls.mono (pickG (k := 3) (g_rd) (by omega) (by omega)) ?_
    rintro e w2 ⟨v, rfl, ⟨u, rfl, hu⟩, hr2, hc2⟩
    have hu := hu (by omega)
    obtain ⟨yu, hyu, hlu⟩ := lit_get [32768, 5, -32769] (j := u) (by simp only [List.length_cons, List.length_nil]; omega)
    have nb : ¬ w1.heap.size = g := by omega
    have hcl : w2.cell? ⟨w1.heap.size, u, none⟩ = some (.int .i64 yu) := (((Blk.new w1 3 (ints .i64 [32768, 5, -32769]).toArray).chg hc2 nb).cell u).trans (by simpa using hlu)
    have C2 := Lib.hid (ChgG.trans (a := w) (chg_al C1.out _) hc2)
    have D6 := Lib.hid ((B6.out.al (.cells (ints .i64 [32768, 5, -32769]).toArray 3)).chg hc2 ne0)
    have D7 := Lib.hid ((B7.out.al (.cells (ints .i64 [32768, 5, -32769]).toArray 3)).chg hc2 ne1)
    have R2 := Lib.hid hr2
    clear hr2 hc2 C1 B6 B7 R1 hyu hlu
    have C1 := C2
    have B6 := D6
    have B7 := D7
    clear C2 D6 D7
    obtain ⟨u0, u1, u2, u3, u4, u5, u6, u7, c0, c1, c2, c3, c4, c5, c6, c7⟩ := B6.out.all
    obtain ⟨v0, v1, v2, v3, v4, v5, v6, v7, d0, d1, d2, d3, d4, d5, d6, d7⟩ := B7.out.all
    have f6 := B6.out.fz
    have f7 := B7.out.fz
    have l6 := B6.out.lt
    have l7 := B7.out.lt
    go_wp2
    refine body_boxN (t := w.heap.size + 1) (by have := B7.out; exact g_boxN) ?_
    rintro E hE x0 x1 x2 x3 x4 x5 x6 x7 e0 e1 e2 e3 e4 e5 e6 e7
    refine bodyPost_ret (by simp [results, Tryz.results56, go_sem, e0, e1, e2, e3, e4, e5, e6, e7]; try rfl) rfl ?_
    rw [hE]
    refine ⟨_, rfl, ⟨_, _, _, _, _, _, _, _, rfl⟩, RdLe.mono (g_rd) (by omega), by have := C1.out; exact g_chg⟩
  · go_wp2_with fail
    refine Calls.mono (pickG (k := 4) (g_rd) (by omega) (by omega)) ?_
    rintro e w2 ⟨v, rfl, ⟨u, rfl, hu⟩, hr2, hc2⟩
    have hu := hu (by omega)
    obtain ⟨yu, hyu, hlu⟩ := lit_get [-1, 10, 4, 1] (j := u) (by simp only [List.length_cons, List.length_nil]; omega)
    have nb : ¬ w1.heap.size = g := by omega
    have hcl : w2.cell? ⟨w1.heap.size, u, none⟩ = some (.int .i64 yu) := (((Blk.new w1 3 (ints .i64 [-1, 10, 4, 1]).toArray).chg hc2 nb).cell u).trans (by simpa using hlu)
    have C2 := Lib.hid (ChgG.trans (a := w) (chg_al C1.out _) hc2)
    have D6 := Lib.hid ((B6.out.al (.cells (ints .i64 [-1, 10, 4, 1]).toArray 3)).chg hc2 ne0)
    have D7 := Lib.hid ((B7.out.al (.cells (ints .i64 [-1, 10, 4, 1]).toArray 3)).chg hc2 ne1)
    have R2 := Lib.hid hr2
    clear hr2 hc2 C1 B6 B7 R1 hyu hlu
    have C1 := C2
    have B6 := D6
    have B7 := D7
    clear C2 D6 D7
    obtain ⟨u0, u1, u2, u3, u4, u5, u6, u7, c0, c1, c2, c3, c4, c5, c6, c7⟩ := B6.out.all
    obtain ⟨v0, v1, v2, v3, v4, v5, v6, v7, d0, d1, d2, d3, d4, d5, d6, d7⟩ := B7.out.all
    have f6 := B6.out.fz
    have f7 := B7.out.fz
    have l6 := B6.out.lt
    have l7 := B7.out.lt
    go_wp2
    refine body_boxN (t := w.heap.size + 1) (by have := B7.out; exact g_boxN) ?_
    rintro E hE x0 x1 x2 x3 x4 x5 x6 x7 e0 e1 e2 e3 e4 e5 e6 e7
    refine bodyPost_ret (by simp [results, Tryz.results56, go_sem, e0, e1, e2, e3, e4, e5, e6, e7]; try rfl) rfl ?_
    rw [hE]
    refine ⟨_, rfl, ⟨_, _, _, _, _, _, _, _, rfl⟩, RdLe.mono (g_rd) (by omega), by have := C1.out; exact g_chg⟩

end Go.Proofs.YtcdfomoglkhboaaGreatDoor
