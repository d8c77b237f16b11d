/- The draw of a bent text (l20Bent). No condition. -/
import Derived.Test.YtcdfomoglkhboaaGreatDoorDrL
import Derived.Laws.BytesArg
namespace Go.Proofs.YtcdfomoglkhboaaGreatDoor
open Go.RowKit
set_option linter.unusedVariables false
set_option linter.unusedSimpArgs false
attribute [local go_sem] dg_cell dg_frozen dg_lt dg_lt1 dg_lt2 dg_ne dg_ne1 dg_ne2 dg_new dg_wen lt_s2 lt_s3 lt_s4 lt_s5 lt_s6

def IsStr (v : Value) : Prop := ∃ l : List UInt8, v = .string ⟨l.toArray⟩
theorem isStr (b : ByteArray) : IsStr (.string b) := ⟨b.data.toList, rfl⟩

theorem ext_sz (l : List UInt8) (i j : Nat) (h : l.length ≤ 1000000) : ((ByteArray.mk l.toArray).extract i j).size ≤ 1000000 := by
  have e : (ByteArray.mk l.toArray).size = l.length := by show l.toArray.size = _; simp
  rw [ByteArray.size_extract, e]
  omega
set_option maxRecDepth 100000 in
set_option maxHeartbeats 4000000 in
theorem bentG {g P : Nat} {l : List UInt8} {w : World} (h : RdLe w g P) (hp : P + 4 ≤ 1099511627776) (hl : l.length ≤ 1000000) :
    Calls Tryz.prog 43 #[.pointer (some ⟨g, 0, none⟩), .string ⟨l.toArray⟩] w (RetG IsStr g (P + 4) w) := by
  have lt0 := h.lt
  obtain ⟨ne0, ne1, ne2, ne3, ne4, ne5⟩ : ¬ w.heap.size = g ∧ ¬ w.heap.size + 1 = g ∧ ¬ w.heap.size + 1 + 1 = g ∧ ¬ w.heap.size + 1 + 1 + 1 = g ∧ ¬ w.heap.size + 1 + 1 + 1 + 1 = g ∧ ¬ w.heap.size + 1 + 1 + 1 + 1 + 1 = g := by omega
  have HP := Lib.hid h; clear h
  go_enter Tryz.func43, Tryz.ntmps43
  go_wp2_with fail
  refine Calls.mono (pickG (k := (l.length : Int) + 1) (g_rd) (by omega) (by omega)) ?_
  rintro e w1 ⟨v, rfl, ⟨q, rfl, hq⟩, hr1, hc1⟩
  have hq := hq (by omega)
  have R1 := Lib.hid hr1
  have C1 := Lib.hid hc1
  clear hr1 hc1 HP
  go_wp2_with fail
  refine Calls.mono (pickG (k := 256) R1.out (by omega) (by omega)) ?_
  rintro e w2 ⟨v, rfl, ⟨q2, rfl, hq2⟩, hr2, hc2⟩
  have hq2 := hq2 (by omega)
  have R2 := Lib.hid hr2
  have C2 := Lib.hid (ChgG.trans C1.out hc2)
  clear hr2 hc2 R1 C1
  go_wp2_with fail
  refine Calls.mono (pickG (k := 8) (rd_al R2.out _) (by omega) (by omega)) ?_
  rintro e w3 ⟨v, rfl, ⟨q3, rfl, hq3⟩, hr3, hc3⟩
  have hq3 := hq3 (by omega)
  have R3 := Lib.hid hr3
  have C3 := Lib.hid (ChgG.trans (chg_al C2.out (.cells #[.int .i64 32, .int .i64 48, .int .i64 49, .int .i64 57, .int .i64 45, .int .i64 97, .int .i64 46, .int .i64 q2] 3)) hc3)
  have l2 := R2.out.lt
  have HB := Lib.hid ((Blk.new w2 3 #[.int .i64 32, .int .i64 48, .int .i64 49, .int .i64 57, .int .i64 45, .int .i64 97, .int .i64 46, .int .i64 q2]).chg hc3 (by omega))
  obtain ⟨y, hy⟩ : ∃ y : Int, w3.cell? ⟨w2.heap.size, q3, none⟩ = some (.int .i64 y) := by
    have : q3 = 0 ∨ q3 = 1 ∨ q3 = 2 ∨ q3 = 3 ∨ q3 = 4 ∨ q3 = 5 ∨ q3 = 6 ∨ q3 = 7 := by omega
    rcases this with rfl | rfl | rfl | rfl | rfl | rfl | rfl | rfl <;> exact ⟨_, HB.out.cell _⟩
  have l3 := HB.out.lt
  clear hr3 hc3 R2 C2 HB
  obtain ⟨cb, cs, cv⟩ : ∃ cb : ByteArray, cb.size ≤ 1000000 ∧ (convert 22 9 (.slice (some ⟨w3.heap.size, 0, none⟩) 1 1)).run Tryz.prog (w3.alloc (.cells #[.int .u8 (y % 256)] 5)) = .ok (.string cb) (w3.alloc (.cells #[.int .u8 (y % 256)] 5)) :=
    ⟨_, by rw [strOfNums_size, List.length_singleton]; omega, run_convert_bytes_arg _ 22 5 Tryz.underlying22 Tryz.underlying5 w3.heap.size 0 1 1 [y % 256] rfl (fun i hi => by
      obtain rfl : i = 0 := by omega
      rw [World.cell?_alloc_new]; rfl) 9 Tryz.underlying9⟩
  go_wp2_with fail
  refine Calls.mono (pickG (k := 3) (rd_al R3.out _) (by omega) (by omega)) ?_
  rintro e w4 ⟨v, rfl, ⟨q4, rfl, hq4⟩, hr4, hc4⟩
  have hq4 := hq4 (by omega)
  have R4 := Lib.hid (hr4.mono (show P + 1 + 1 + 1 + 1 ≤ P + 4 by omega))
  have C4 := Lib.hid (ChgG.trans (chg_al C3.out (.cells #[.int .u8 (y % 256)] 5)) hc4)
  clear hr4 hc4 R3 C3 hy cv l3 l2
  have hq4' : q4 = 0 ∨ q4 = 1 ∨ q4 = 2 := by omega
  have hql : q ≤ l.length := by omega
  rcases hq4' with rfl | rfl | rfl
  · obtain ⟨A, hA, sA⟩ : ∃ A, (ByteArray.mk l.toArray).extract 0 q = A ∧ A.size ≤ 1000000 := ⟨_, rfl, ext_sz l 0 q hl⟩
    obtain ⟨B, hB, sB⟩ : ∃ B, (ByteArray.mk l.toArray).extract q l.length = B ∧ B.size ≤ 1000000 := ⟨_, rfl, ext_sz l q l.length hl⟩
    have s1 : ¬ (A.size + cb.size > 9223372036854775807) := by omega
    have s2 : ¬ (A.size + cb.size + B.size > 9223372036854775807) := by omega
    go_wp2
    go_quiet (fail)
    go_wp2
    go_ret
    exact ⟨_, rfl, isStr _, R4.out.grew (grew_drewN _ _), ChgG.trans C4.out (Chg.of_below (grew_drewN _ _))⟩
  · by_cases hlt : (q : Int) < (l.length : Int)
    · have hq1 : q + 1 ≤ l.length := by omega
      obtain ⟨A, hA, sA⟩ : ∃ A, (ByteArray.mk l.toArray).extract 0 q = A ∧ A.size ≤ 1000000 := ⟨_, rfl, ext_sz l 0 q hl⟩
      obtain ⟨B, hB, sB⟩ : ∃ B, (ByteArray.mk l.toArray).extract (q + 1) l.length = B ∧ B.size ≤ 1000000 := ⟨_, rfl, ext_sz l (q + 1) l.length hl⟩
      have s1 : ¬ (A.size + B.size > 9223372036854775807) := by omega
      go_wp2
      go_quiet (fail)
      go_wp2
      go_ret
      exact ⟨_, rfl, isStr _, R4.out.grew (grew_drewN _ _), ChgG.trans C4.out (Chg.of_below (grew_drewN _ _))⟩
    · go_wp2
      go_ret
      exact ⟨_, rfl, ⟨l, rfl⟩, R4.out, C4.out⟩
  · by_cases hlt : (q : Int) < (l.length : Int)
    · have hq1 : q + 1 ≤ l.length := by omega
      obtain ⟨A, hA, sA⟩ : ∃ A, (ByteArray.mk l.toArray).extract 0 q = A ∧ A.size ≤ 1000000 := ⟨_, rfl, ext_sz l 0 q hl⟩
      obtain ⟨B, hB, sB⟩ : ∃ B, (ByteArray.mk l.toArray).extract (q + 1) l.length = B ∧ B.size ≤ 1000000 := ⟨_, rfl, ext_sz l (q + 1) l.length hl⟩
      have s1 : ¬ (A.size + cb.size > 9223372036854775807) := by omega
      have s2 : ¬ (A.size + cb.size + B.size > 9223372036854775807) := by omega
      go_wp2
      go_quiet (fail)
      go_wp2
      go_ret
      exact ⟨_, rfl, isStr _, R4.out.grew (grew_drewN _ _), ChgG.trans C4.out (Chg.of_below (grew_drewN _ _))⟩
    · go_wp2
      go_ret
      exact ⟨_, rfl, ⟨l, rfl⟩, R4.out, C4.out⟩
end Go.Proofs.YtcdfomoglkhboaaGreatDoor
