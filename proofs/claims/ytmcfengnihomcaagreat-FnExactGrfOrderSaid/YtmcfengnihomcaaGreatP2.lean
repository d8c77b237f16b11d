/- Lemmas and walks of this proof, several texts one behind the other. No condition. -/
import Derived.Test.YtmcfengnihomcaaGreatP1
import Derived.Deep.Light
set_option linter.unusedSimpArgs false
set_option linter.unusedVariables false
/- Contracts of codeOf and of the reference's l3Form. No condition. -/
namespace Go.Proofs.YtmcfengnihomcaaGreat
open Go.RowKit
set_option linter.unusedVariables false

/-- What codeOf makes of an instruction. -/
def codeV (i : Ins) : Value :=
  if i.op = 1 ∨ i.op = 2 ∨ i.op = 3 ∨ i.op = 4 then .iface 123 (.agg #[.int .i64 i.op, .int .i64 i.d, .int .i64 i.a, .int .i64 i.b])
  else if i.op = 5 then .iface 106 (.agg #[.int .i64 i.d, .int .i64 i.lo, .int .i64 i.hi])
  else if i.op = 6 then .iface 125 (.agg #[.int .i64 i.d, .int .i64 i.a])
  else if i.op = 7 then .iface 127 (.agg #[.int .i64 i.a, .int .i64 i.b])
  else if i.op = 8 then .iface 108 (.agg #[.int .i64 i.rel, .int .i64 i.a, .int .i64 i.b, .int .i64 i.to])
  else if i.op = 9 then .iface 111 (.agg #[.int .i64 i.to])
  else if i.op = 10 then .iface 113 (.agg #[.int .i64 i.d, .int .i64 i.a, .int .i64 i.to])
  else if i.op = 11 then .iface 115 (.agg #[.int .i64 i.rel, .int .i64 i.a, .int .i64 i.b])
  else if i.op = 12 then .iface 129 (.agg #[.int .i64 i.a])
  else .nilIface

theorem opCases (op : Int) : op = 1 ∨ op = 2 ∨ op = 3 ∨ op = 4 ∨ op = 5 ∨ op = 6 ∨ op = 7 ∨ op = 8 ∨ op = 9 ∨ op = 10 ∨ op = 11 ∨ op = 12 ∨ (op ≠ 1 ∧ op ≠ 2 ∧ op ≠ 3 ∧ op ≠ 4 ∧ op ≠ 5 ∧ op ≠ 6 ∧ op ≠ 7 ∧ op ≠ 8 ∧ op ≠ 9 ∧ op ≠ 10 ∧ op ≠ 11 ∧ op ≠ 12) := by omega

set_option maxRecDepth 100000 in
set_option maxHeartbeats 8000000 in
theorem codeOf (i : Ins) (w : World) :
    Calls Tryz.prog 68 #[i.v] w fun e w' => e = .returned (codeV i) ∧ Grew w w' := by
  obtain ⟨op, d, a, b, rel, lo, hi, to⟩ := i
  rcases opCases op with rfl | rfl | rfl | rfl | rfl | rfl | rfl | rfl | rfl | rfl | rfl | rfl | ⟨n1, n2, n3, n4, n5, n6, n7, n8, n9, n10, n11, n12⟩
  · go_enter Tryz.func68, Tryz.ntmps68
    go_wp2
    go_returns
    exact ⟨rfl, by unfold Grew; go_grown⟩
  · go_enter Tryz.func68, Tryz.ntmps68
    go_wp2
    go_returns
    exact ⟨rfl, by unfold Grew; go_grown⟩
  · go_enter Tryz.func68, Tryz.ntmps68
    go_wp2
    go_returns
    exact ⟨rfl, by unfold Grew; go_grown⟩
  · go_enter Tryz.func68, Tryz.ntmps68
    go_wp2
    go_returns
    exact ⟨rfl, by unfold Grew; go_grown⟩
  · go_enter Tryz.func68, Tryz.ntmps68
    go_wp2
    go_returns
    exact ⟨rfl, by unfold Grew; go_grown⟩
  · go_enter Tryz.func68, Tryz.ntmps68
    go_wp2
    go_returns
    exact ⟨rfl, by unfold Grew; go_grown⟩
  · go_enter Tryz.func68, Tryz.ntmps68
    go_wp2
    go_returns
    exact ⟨rfl, by unfold Grew; go_grown⟩
  · go_enter Tryz.func68, Tryz.ntmps68
    go_wp2
    go_returns
    exact ⟨rfl, by unfold Grew; go_grown⟩
  · go_enter Tryz.func68, Tryz.ntmps68
    go_wp2
    go_returns
    exact ⟨rfl, by unfold Grew; go_grown⟩
  · go_enter Tryz.func68, Tryz.ntmps68
    go_wp2
    go_returns
    exact ⟨rfl, by unfold Grew; go_grown⟩
  · go_enter Tryz.func68, Tryz.ntmps68
    go_wp2
    go_returns
    exact ⟨rfl, by unfold Grew; go_grown⟩
  · go_enter Tryz.func68, Tryz.ntmps68
    go_wp2
    go_returns
    exact ⟨rfl, by unfold Grew; go_grown⟩
  · have HV : Hid (codeV ⟨op, d, a, b, rel, lo, hi, to⟩ = .nilIface) := Lib.hid (by unfold codeV; simp [n1, n2, n3, n4, n5, n6, n7, n8, n9, n10, n11, n12])
    have d1 : (op == 1) = false := by simpa using n1
    have d2 : (op == 2) = false := by simpa using n2
    have d3 : (op == 3) = false := by simpa using n3
    have d4 : (op == 4) = false := by simpa using n4
    have d5 : (op == 5) = false := by simpa using n5
    have d6 : (op == 6) = false := by simpa using n6
    have d7 : (op == 7) = false := by simpa using n7
    have d8 : (op == 8) = false := by simpa using n8
    have d9 : (op == 9) = false := by simpa using n9
    have d10 : (op == 10) = false := by simpa using n10
    have d11 : (op == 11) = false := by simpa using n11
    have d12 : (op == 12) = false := by simpa using n12
    clear n1 n2 n3 n4 n5 n6 n7 n8 n9 n10 n11 n12
    go_enter Tryz.func68, Tryz.ntmps68
    go_wp2
    go_returns
    exact ⟨by rw [HV.out]; rfl, by unfold Grew; go_grown⟩

/-- What an instruction has beside what its kind has. -/
def formV (i : Ins) : Ins :=
  if i.op = 1 then ⟨0, 0, 0, 0, i.rel, i.lo, i.hi, i.to⟩
  else if i.op = 2 then ⟨0, 0, 0, 0, i.rel, i.lo, i.hi, i.to⟩
  else if i.op = 3 then ⟨0, 0, 0, 0, i.rel, i.lo, i.hi, i.to⟩
  else if i.op = 4 then ⟨0, 0, 0, 0, i.rel, i.lo, i.hi, i.to⟩
  else if i.op = 5 then ⟨0, 0, i.a, i.b, i.rel, 0, 0, i.to⟩
  else if i.op = 6 then ⟨0, 0, 0, i.b, i.rel, i.lo, i.hi, i.to⟩
  else if i.op = 7 then ⟨0, i.d, 0, 0, i.rel, i.lo, i.hi, i.to⟩
  else if i.op = 8 then ⟨0, i.d, 0, 0, 0, i.lo, i.hi, 0⟩
  else if i.op = 9 then ⟨0, i.d, i.a, i.b, i.rel, i.lo, i.hi, 0⟩
  else if i.op = 10 then ⟨0, 0, 0, i.b, i.rel, i.lo, i.hi, 0⟩
  else if i.op = 11 then ⟨0, i.d, 0, 0, 0, i.lo, i.hi, i.to⟩
  else if i.op = 12 then ⟨0, i.d, 0, i.b, i.rel, i.lo, i.hi, i.to⟩
  else { i with op := 0 }

set_option maxRecDepth 100000 in
set_option maxHeartbeats 8000000 in
theorem l3Form (i : Ins) (w : World) (h1 : 1 ≤ i.op) (h2 : i.op ≤ 12) :
    Calls Tryz.prog 80 #[i.v] w fun e w' => e = .returned (formV i).v ∧ Grew w w' := by
  obtain ⟨op, d, a, b, rel, lo, hi, to⟩ := i
  simp only at h1 h2
  have h : op = 1 ∨ op = 2 ∨ op = 3 ∨ op = 4 ∨ op = 5 ∨ op = 6 ∨ op = 7 ∨ op = 8 ∨ op = 9 ∨ op = 10 ∨ op = 11 ∨ op = 12 := by omega
  rcases h with rfl | rfl | rfl | rfl | rfl | rfl | rfl | rfl | rfl | rfl | rfl | rfl
  · clear h1 h2
    go_enter Tryz.func80, Tryz.ntmps80
    go_wp2
    go_returns
    exact ⟨rfl, by unfold Grew; go_grown⟩
  · clear h1 h2
    go_enter Tryz.func80, Tryz.ntmps80
    go_wp2
    go_returns
    exact ⟨rfl, by unfold Grew; go_grown⟩
  · clear h1 h2
    go_enter Tryz.func80, Tryz.ntmps80
    go_wp2
    go_returns
    exact ⟨rfl, by unfold Grew; go_grown⟩
  · clear h1 h2
    go_enter Tryz.func80, Tryz.ntmps80
    go_wp2
    go_returns
    exact ⟨rfl, by unfold Grew; go_grown⟩
  · clear h1 h2
    go_enter Tryz.func80, Tryz.ntmps80
    go_wp2
    go_returns
    exact ⟨rfl, by unfold Grew; go_grown⟩
  · clear h1 h2
    go_enter Tryz.func80, Tryz.ntmps80
    go_wp2
    go_returns
    exact ⟨rfl, by unfold Grew; go_grown⟩
  · clear h1 h2
    go_enter Tryz.func80, Tryz.ntmps80
    go_wp2
    go_returns
    exact ⟨rfl, by unfold Grew; go_grown⟩
  · clear h1 h2
    go_enter Tryz.func80, Tryz.ntmps80
    go_wp2
    go_returns
    exact ⟨rfl, by unfold Grew; go_grown⟩
  · clear h1 h2
    go_enter Tryz.func80, Tryz.ntmps80
    go_wp2
    go_returns
    exact ⟨rfl, by unfold Grew; go_grown⟩
  · clear h1 h2
    go_enter Tryz.func80, Tryz.ntmps80
    go_wp2
    go_returns
    exact ⟨rfl, by unfold Grew; go_grown⟩
  · clear h1 h2
    go_enter Tryz.func80, Tryz.ntmps80
    go_wp2
    go_returns
    exact ⟨rfl, by unfold Grew; go_grown⟩
  · clear h1 h2
    go_enter Tryz.func80, Tryz.ntmps80
    go_wp2
    go_returns
    exact ⟨rfl, by unfold Grew; go_grown⟩

end Go.Proofs.YtmcfengnihomcaaGreat

/- Contracts of InsOk of the reference and of the program. No condition. -/
namespace Go.Proofs.YtmcfengnihomcaaGreat
open Go.RowKit
set_option linter.unusedVariables false
attribute [local go_sem] ext_cell

/-- A call that returns a bool, the bool known. -/
theorem bool_is {P : Program} {f : FuncId} {args : Array Value} {w : World} {X b : Bool} {R : World → Prop} (c : Calls P f args w fun e w' => e = .returned (.bool X) ∧ R w') (h : X = b) :
    Calls P f args w fun e w' => e = .returned (.bool b) ∧ R w' := by subst h; exact c

/-- Bounds of numbers of the program. -/
def itvOkB (lo hi : Int) : Bool := (decide (-32768 ≤ lo) && decide (lo ≤ 32767)) && (decide (-32768 ≤ hi) && decide (hi ≤ 32767)) && decide (lo ≤ hi)

theorem itvOk (lo hi : Int) (w : World) :
    Calls Tryz.prog 48 #[.agg #[.int .i64 lo, .int .i64 hi]] w fun e w' => e = .returned (.bool (itvOkB lo hi)) ∧ Grew w w' := by
  go_enter Tryz.func48, Tryz.ntmps48
  go_wp2
  all_goals
    go_ret
    exact ⟨by simp [itvOkB]; try omega, by unfold Grew; go_grown⟩

def varB (x : Int) : Bool := decide (0 ≤ x) && decide (x ≤ 3)
theorem varB4 (x : Int) : (decide (0 ≤ x) && decide (x < 4)) = varB x := by unfold varB; rw [Bool.eq_iff_iff]; simp; omega
def headB (i : Ins) : Bool := (decide (1 ≤ i.op) && decide (i.op ≤ 12)) && (decide (formV i = ⟨0, 0, 0, 0, 0, 0, 0, 0⟩) && (varB i.d && (varB i.a && varB i.b)))
def tailB (i : Ins) (procs size : Int) : Bool :=
  if i.op = 5 then itvOkB i.lo i.hi
  else if i.op = 8 then (decide (1 ≤ i.rel) && decide (i.rel ≤ 4)) && (decide (0 ≤ i.to) && decide (i.to < size))
  else if i.op = 9 then decide (0 ≤ i.to) && decide (i.to < size)
  else if i.op = 10 then decide (0 ≤ i.to) && decide (i.to < procs)
  else if i.op = 11 then decide (1 ≤ i.rel) && decide (i.rel ≤ 4)
  else true
def insOkB (i : Ins) (procs size : Int) : Bool := headB i && tailB i procs size
/-- Whether two instructions are the same. -/
def insEqB (i j : Ins) : Bool := decide (i = j)
theorem insNeq (a1 a2 a3 a4 a5 a6 a7 a8 b1 b2 b3 b4 b5 b6 b7 b8 : Int) (w : World) :
    (binOp .neq 86 (.agg #[.int .i64 a1, .int .i64 a2, .int .i64 a3, .int .i64 a4, .int .i64 a5, .int .i64 a6, .int .i64 a7, .int .i64 a8]) (.agg #[.int .i64 b1, .int .i64 b2, .int .i64 b3, .int .i64 b4, .int .i64 b5, .int .i64 b6, .int .i64 b7, .int .i64 b8])).run Tryz.prog w =
      .ok (.bool (!insEqB ⟨a1, a2, a3, a4, a5, a6, a7, a8⟩ ⟨b1, b2, b3, b4, b5, b6, b7, b8⟩)) w := by
  unfold insEqB
  by_cases h1 : a1 = b1
  · by_cases h2 : a2 = b2
    · by_cases h3 : a3 = b3
      · by_cases h4 : a4 = b4
        · by_cases h5 : a5 = b5
          · by_cases h6 : a6 = b6
            · by_cases h7 : a7 = b7
              · by_cases h8 : a8 = b8 <;> simp [go_sem, *]
              · simp [go_sem, *]
            · simp [go_sem, *]
          · simp [go_sem, *]
        · simp [go_sem, *]
      · simp [go_sem, *]
    · simp [go_sem, *]
  · simp [go_sem, *]
theorem insEql (a1 a2 a3 a4 a5 a6 a7 a8 b1 b2 b3 b4 b5 b6 b7 b8 : Int) (w : World) :
    (binOp .eql 86 (.agg #[.int .i64 a1, .int .i64 a2, .int .i64 a3, .int .i64 a4, .int .i64 a5, .int .i64 a6, .int .i64 a7, .int .i64 a8]) (.agg #[.int .i64 b1, .int .i64 b2, .int .i64 b3, .int .i64 b4, .int .i64 b5, .int .i64 b6, .int .i64 b7, .int .i64 b8])).run Tryz.prog w =
      .ok (.bool (insEqB ⟨a1, a2, a3, a4, a5, a6, a7, a8⟩ ⟨b1, b2, b3, b4, b5, b6, b7, b8⟩)) w := by
  unfold insEqB
  by_cases h1 : a1 = b1
  · by_cases h2 : a2 = b2
    · by_cases h3 : a3 = b3
      · by_cases h4 : a4 = b4
        · by_cases h5 : a5 = b5
          · by_cases h6 : a6 = b6
            · by_cases h7 : a7 = b7
              · by_cases h8 : a8 = b8 <;> simp [go_sem, *]
              · simp [go_sem, *]
            · simp [go_sem, *]
          · simp [go_sem, *]
        · simp [go_sem, *]
      · simp [go_sem, *]
    · simp [go_sem, *]
  · simp [go_sem, *]
attribute [local go_sem ↓] insNeq insEql

set_option maxRecDepth 100000 in
set_option maxHeartbeats 4000000 in
theorem specInsOkI (op d a b rel lo hi to procs size : Int) (w : World) (hI : (decide (1 ≤ op) && decide (op ≤ 12)) = false) :
    Calls Tryz.prog 64 #[Ins.v ⟨op, d, a, b, rel, lo, hi, to⟩, .int .i64 procs, .int .i64 size] w fun e w' => e = .returned (.bool false) ∧ Grew w w' := by
  have CI : Hid (∀ w, Calls Tryz.prog 44 #[.int .i64 op, .int .i64 1, .int .i64 12] w fun e w' => e = .returned (.bool false) ∧ w = w') := Lib.hid (fun w => bool_is (l1In op 1 12 w) hI)
  clear hI
  go_enter Tryz.func64, Tryz.ntmps64
  go_wp2_with fail
  refine wp_region_ext (by kernel_rfl) (by kernel_rfl) ?_
  repeat (go_big_quiet_step ((first | (with_reducible exact ext_same (CI.out _)))))
  refine wpQuiet_nil ?_
  intro _ hw'
  obtain ⟨x, hw''⟩ := hw'
  subst hw''
  have HX := Lib.hid (ext_grew _ x)
  go_wp2
  go_ret
  exact ⟨rfl, (Below.trans (by go_grown) (Below.mono HX.out (by simp; omega)))⟩

set_option maxRecDepth 100000 in
set_option maxHeartbeats 4000000 in
theorem specInsOkF (op d a b rel lo hi to procs size : Int) (w : World) (hI : (decide (1 ≤ op) && decide (op ≤ 12)) = true) (h1 : 1 ≤ op) (h2 : op ≤ 12) (op2 d2 a2 b2 rel2 lo2 hi2 to2 : Int) (hf : formV ⟨op, d, a, b, rel, lo, hi, to⟩ = ⟨op2, d2, a2, b2, rel2, lo2, hi2, to2⟩) (hne : insEqB ⟨op2, d2, a2, b2, rel2, lo2, hi2, to2⟩ ⟨0, 0, 0, 0, 0, 0, 0, 0⟩ = false) :
    Calls Tryz.prog 64 #[Ins.v ⟨op, d, a, b, rel, lo, hi, to⟩, .int .i64 procs, .int .i64 size] w fun e w' => e = .returned (.bool false) ∧ Grew w w' := by
  have CI : Hid (∀ w, Calls Tryz.prog 44 #[.int .i64 op, .int .i64 1, .int .i64 12] w fun e w' => e = .returned (.bool true) ∧ w = w') := Lib.hid (fun w => bool_is (l1In op 1 12 w) hI)
  have CF : Hid (∀ w, Calls Tryz.prog 80 #[Ins.v ⟨op, d, a, b, rel, lo, hi, to⟩] w fun e w' => e = .returned (.agg #[.int .i64 op2, .int .i64 d2, .int .i64 a2, .int .i64 b2, .int .i64 rel2, .int .i64 lo2, .int .i64 hi2, .int .i64 to2]) ∧ Grew w w') := Lib.hid (fun w => by
    have := l3Form ⟨op, d, a, b, rel, lo, hi, to⟩ w h1 h2
    rw [hf] at this
    exact this)
  clear hI hf h1 h2
  go_enter Tryz.func64, Tryz.ntmps64
  go_wp2_with fail
  refine wp_region_ext (by kernel_rfl) (by kernel_rfl) ?_
  repeat (go_big_quiet_step ((first | (with_reducible exact ext_same (CI.out _)) | (with_reducible exact ext_grow (CF.out _)))))
  refine wpQuiet_nil ?_
  intro _ hw'
  obtain ⟨x, hw''⟩ := hw'
  subst hw''
  have HX := Lib.hid (ext_grew _ x)
  go_wp2
  go_ret
  exact ⟨rfl, (Below.trans (by go_grown) (Below.mono HX.out (by simp; omega)))⟩

set_option maxRecDepth 100000 in
set_option maxHeartbeats 4000000 in
theorem specInsOkD (op d a b rel lo hi to procs size : Int) (w : World) (hI : (decide (1 ≤ op) && decide (op ≤ 12)) = true) (h1 : 1 ≤ op) (h2 : op ≤ 12) (hf : formV ⟨op, d, a, b, rel, lo, hi, to⟩ = ⟨0, 0, 0, 0, 0, 0, 0, 0⟩) (hD : varB d = false) :
    Calls Tryz.prog 64 #[Ins.v ⟨op, d, a, b, rel, lo, hi, to⟩, .int .i64 procs, .int .i64 size] w fun e w' => e = .returned (.bool false) ∧ Grew w w' := by
  have CI : Hid (∀ w, Calls Tryz.prog 44 #[.int .i64 op, .int .i64 1, .int .i64 12] w fun e w' => e = .returned (.bool true) ∧ w = w') := Lib.hid (fun w => bool_is (l1In op 1 12 w) hI)
  have CD : Hid (∀ w, Calls Tryz.prog 44 #[.int .i64 d, .int .i64 0, .int .i64 3] w fun e w' => e = .returned (.bool false) ∧ w = w') := Lib.hid (fun w => bool_is (l1In d 0 3 w) hD)
  have CF : Hid (∀ w, Calls Tryz.prog 80 #[Ins.v ⟨op, d, a, b, rel, lo, hi, to⟩] w fun e w' => e = .returned (.agg #[.int .i64 0, .int .i64 0, .int .i64 0, .int .i64 0, .int .i64 0, .int .i64 0, .int .i64 0, .int .i64 0]) ∧ Grew w w') := Lib.hid (fun w => by
    have := l3Form ⟨op, d, a, b, rel, lo, hi, to⟩ w h1 h2
    rw [hf] at this
    exact this)
  clear hI hD hf h1 h2
  have hz : insEqB ⟨0, 0, 0, 0, 0, 0, 0, 0⟩ ⟨0, 0, 0, 0, 0, 0, 0, 0⟩ = true := rfl
  go_enter Tryz.func64, Tryz.ntmps64
  go_wp2_with fail
  refine wp_region_ext (by kernel_rfl) (by kernel_rfl) ?_
  repeat (go_big_quiet_step ((first | (with_reducible exact ext_same (CI.out _)) | (with_reducible exact ext_same (CD.out _)) | (with_reducible exact ext_grow (CF.out _)))))
  refine wpQuiet_nil ?_
  intro _ hw'
  obtain ⟨x, hw''⟩ := hw'
  subst hw''
  have HX := Lib.hid (ext_grew _ x)
  go_wp2
  go_ret
  exact ⟨rfl, (Below.trans (by go_grown) (Below.mono HX.out (by simp; omega)))⟩

set_option maxRecDepth 100000 in
set_option maxHeartbeats 4000000 in
theorem specInsOkA (op d a b rel lo hi to procs size : Int) (w : World) (hI : (decide (1 ≤ op) && decide (op ≤ 12)) = true) (h1 : 1 ≤ op) (h2 : op ≤ 12) (hf : formV ⟨op, d, a, b, rel, lo, hi, to⟩ = ⟨0, 0, 0, 0, 0, 0, 0, 0⟩) (hD : varB d = true) (hA : varB a = false) :
    Calls Tryz.prog 64 #[Ins.v ⟨op, d, a, b, rel, lo, hi, to⟩, .int .i64 procs, .int .i64 size] w fun e w' => e = .returned (.bool false) ∧ Grew w w' := by
  have CI : Hid (∀ w, Calls Tryz.prog 44 #[.int .i64 op, .int .i64 1, .int .i64 12] w fun e w' => e = .returned (.bool true) ∧ w = w') := Lib.hid (fun w => bool_is (l1In op 1 12 w) hI)
  have CD : Hid (∀ w, Calls Tryz.prog 44 #[.int .i64 d, .int .i64 0, .int .i64 3] w fun e w' => e = .returned (.bool true) ∧ w = w') := Lib.hid (fun w => bool_is (l1In d 0 3 w) hD)
  have CA : Hid (∀ w, Calls Tryz.prog 44 #[.int .i64 a, .int .i64 0, .int .i64 3] w fun e w' => e = .returned (.bool false) ∧ w = w') := Lib.hid (fun w => bool_is (l1In a 0 3 w) hA)
  have CF : Hid (∀ w, Calls Tryz.prog 80 #[Ins.v ⟨op, d, a, b, rel, lo, hi, to⟩] w fun e w' => e = .returned (.agg #[.int .i64 0, .int .i64 0, .int .i64 0, .int .i64 0, .int .i64 0, .int .i64 0, .int .i64 0, .int .i64 0]) ∧ Grew w w') := Lib.hid (fun w => by
    have := l3Form ⟨op, d, a, b, rel, lo, hi, to⟩ w h1 h2
    rw [hf] at this
    exact this)
  clear hI hD hA hf h1 h2
  have hz : insEqB ⟨0, 0, 0, 0, 0, 0, 0, 0⟩ ⟨0, 0, 0, 0, 0, 0, 0, 0⟩ = true := rfl
  go_enter Tryz.func64, Tryz.ntmps64
  go_wp2_with fail
  refine wp_region_ext (by kernel_rfl) (by kernel_rfl) ?_
  repeat (go_big_quiet_step ((first | (with_reducible exact ext_same (CI.out _)) | (with_reducible exact ext_same (CD.out _)) | (with_reducible exact ext_same (CA.out _)) | (with_reducible exact ext_grow (CF.out _)))))
  refine wpQuiet_nil ?_
  intro _ hw'
  obtain ⟨x, hw''⟩ := hw'
  subst hw''
  have HX := Lib.hid (ext_grew _ x)
  go_wp2
  go_ret
  exact ⟨rfl, (Below.trans (by go_grown) (Below.mono HX.out (by simp; omega)))⟩

set_option maxRecDepth 100000 in
set_option maxHeartbeats 4000000 in
theorem specInsOkB (op d a b rel lo hi to procs size : Int) (w : World) (hI : (decide (1 ≤ op) && decide (op ≤ 12)) = true) (h1 : 1 ≤ op) (h2 : op ≤ 12) (hf : formV ⟨op, d, a, b, rel, lo, hi, to⟩ = ⟨0, 0, 0, 0, 0, 0, 0, 0⟩) (hD : varB d = true) (hA : varB a = true) (hB : varB b = false) :
    Calls Tryz.prog 64 #[Ins.v ⟨op, d, a, b, rel, lo, hi, to⟩, .int .i64 procs, .int .i64 size] w fun e w' => e = .returned (.bool false) ∧ Grew w w' := by
  have CI : Hid (∀ w, Calls Tryz.prog 44 #[.int .i64 op, .int .i64 1, .int .i64 12] w fun e w' => e = .returned (.bool true) ∧ w = w') := Lib.hid (fun w => bool_is (l1In op 1 12 w) hI)
  have CD : Hid (∀ w, Calls Tryz.prog 44 #[.int .i64 d, .int .i64 0, .int .i64 3] w fun e w' => e = .returned (.bool true) ∧ w = w') := Lib.hid (fun w => bool_is (l1In d 0 3 w) hD)
  have CA : Hid (∀ w, Calls Tryz.prog 44 #[.int .i64 a, .int .i64 0, .int .i64 3] w fun e w' => e = .returned (.bool true) ∧ w = w') := Lib.hid (fun w => bool_is (l1In a 0 3 w) hA)
  have CB : Hid (∀ w, Calls Tryz.prog 44 #[.int .i64 b, .int .i64 0, .int .i64 3] w fun e w' => e = .returned (.bool false) ∧ w = w') := Lib.hid (fun w => bool_is (l1In b 0 3 w) hB)
  have CF : Hid (∀ w, Calls Tryz.prog 80 #[Ins.v ⟨op, d, a, b, rel, lo, hi, to⟩] w fun e w' => e = .returned (.agg #[.int .i64 0, .int .i64 0, .int .i64 0, .int .i64 0, .int .i64 0, .int .i64 0, .int .i64 0, .int .i64 0]) ∧ Grew w w') := Lib.hid (fun w => by
    have := l3Form ⟨op, d, a, b, rel, lo, hi, to⟩ w h1 h2
    rw [hf] at this
    exact this)
  clear hI hD hA hB hf h1 h2
  have hz : insEqB ⟨0, 0, 0, 0, 0, 0, 0, 0⟩ ⟨0, 0, 0, 0, 0, 0, 0, 0⟩ = true := rfl
  go_enter Tryz.func64, Tryz.ntmps64
  go_wp2_with fail
  refine wp_region_ext (by kernel_rfl) (by kernel_rfl) ?_
  repeat (go_big_quiet_step ((first | (with_reducible exact ext_same (CI.out _)) | (with_reducible exact ext_same (CD.out _)) | (with_reducible exact ext_same (CA.out _)) | (with_reducible exact ext_same (CB.out _)) | (with_reducible exact ext_grow (CF.out _)))))
  refine wpQuiet_nil ?_
  intro _ hw'
  obtain ⟨x, hw''⟩ := hw'
  subst hw''
  have HX := Lib.hid (ext_grew _ x)
  go_wp2
  go_ret
  exact ⟨rfl, (Below.trans (by go_grown) (Below.mono HX.out (by simp; omega)))⟩

set_option maxRecDepth 100000 in
set_option maxHeartbeats 4000000 in
theorem specInsOkT5 (d a b rel lo hi to procs size : Int) (w : World) (hI : (decide (1 ≤ (5 : Int)) && decide ((5 : Int) ≤ 12)) = true) (h1 : 1 ≤ (5 : Int)) (h2 : (5 : Int) ≤ 12) (hf : formV ⟨(5 : Int), d, a, b, rel, lo, hi, to⟩ = ⟨0, 0, 0, 0, 0, 0, 0, 0⟩) (hD : varB d = true) (hA : varB a = true) (hB : varB b = true) :
    Calls Tryz.prog 64 #[Ins.v ⟨(5 : Int), d, a, b, rel, lo, hi, to⟩, .int .i64 procs, .int .i64 size] w fun e w' => e = .returned (.bool (tailB ⟨(5 : Int), d, a, b, rel, lo, hi, to⟩ procs size)) ∧ Grew w w' := by
  have CI : Hid (∀ w, Calls Tryz.prog 44 #[.int .i64 (5 : Int), .int .i64 1, .int .i64 12] w fun e w' => e = .returned (.bool true) ∧ w = w') := Lib.hid (fun w => bool_is (l1In (5 : Int) 1 12 w) hI)
  have CD : Hid (∀ w, Calls Tryz.prog 44 #[.int .i64 d, .int .i64 0, .int .i64 3] w fun e w' => e = .returned (.bool true) ∧ w = w') := Lib.hid (fun w => bool_is (l1In d 0 3 w) hD)
  have CA : Hid (∀ w, Calls Tryz.prog 44 #[.int .i64 a, .int .i64 0, .int .i64 3] w fun e w' => e = .returned (.bool true) ∧ w = w') := Lib.hid (fun w => bool_is (l1In a 0 3 w) hA)
  have CB : Hid (∀ w, Calls Tryz.prog 44 #[.int .i64 b, .int .i64 0, .int .i64 3] w fun e w' => e = .returned (.bool true) ∧ w = w') := Lib.hid (fun w => bool_is (l1In b 0 3 w) hB)
  have CF : Hid (∀ w, Calls Tryz.prog 80 #[Ins.v ⟨(5 : Int), d, a, b, rel, lo, hi, to⟩] w fun e w' => e = .returned (.agg #[.int .i64 0, .int .i64 0, .int .i64 0, .int .i64 0, .int .i64 0, .int .i64 0, .int .i64 0, .int .i64 0]) ∧ Grew w w') := Lib.hid (fun w => by
    have := l3Form ⟨(5 : Int), d, a, b, rel, lo, hi, to⟩ w h1 h2
    rw [hf] at this
    exact this)
  clear hI hD hA hB hf h1 h2
  have hz : insEqB ⟨0, 0, 0, 0, 0, 0, 0, 0⟩ ⟨0, 0, 0, 0, 0, 0, 0, 0⟩ = true := rfl
  go_enter Tryz.func64, Tryz.ntmps64
  go_wp2_with fail
  refine wp_region_ext (by kernel_rfl) (by kernel_rfl) ?_
  repeat (go_big_quiet_step ((first | (with_reducible exact ext_same (CI.out _)) | (with_reducible exact ext_same (CD.out _)) | (with_reducible exact ext_same (CA.out _)) | (with_reducible exact ext_same (CB.out _)) | (with_reducible exact ext_grow (CF.out _)))))
  refine wpQuiet_nil ?_
  intro _ hw'
  obtain ⟨x, hw''⟩ := hw'
  subst hw''
  have HX := Lib.hid (ext_grew _ x)
  go_wp2_with (first | fail | ((go_at_call_of 63 (Value.int .i64 lo)); (with_reducible refine (specNumOk _ _).mono ?_); rintro e w1 ⟨rfl, rfl⟩) | ((go_at_call_of 63 (Value.int .i64 hi)); (with_reducible refine (specNumOk _ _).mono ?_); rintro e w1 ⟨rfl, rfl⟩))
  all_goals
    go_ret
    exact ⟨by simp [tailB, itvOkB, *]; try omega, (Below.trans (by go_grown) (Below.mono HX.out (by simp; omega)))⟩

set_option maxRecDepth 100000 in
set_option maxHeartbeats 4000000 in
theorem specInsOkT8 (d a b rel lo hi to procs size : Int) (w : World) (hI : (decide (1 ≤ (8 : Int)) && decide ((8 : Int) ≤ 12)) = true) (h1 : 1 ≤ (8 : Int)) (h2 : (8 : Int) ≤ 12) (hf : formV ⟨(8 : Int), d, a, b, rel, lo, hi, to⟩ = ⟨0, 0, 0, 0, 0, 0, 0, 0⟩) (hD : varB d = true) (hA : varB a = true) (hB : varB b = true) :
    Calls Tryz.prog 64 #[Ins.v ⟨(8 : Int), d, a, b, rel, lo, hi, to⟩, .int .i64 procs, .int .i64 size] w fun e w' => e = .returned (.bool (tailB ⟨(8 : Int), d, a, b, rel, lo, hi, to⟩ procs size)) ∧ Grew w w' := by
  have CI : Hid (∀ w, Calls Tryz.prog 44 #[.int .i64 (8 : Int), .int .i64 1, .int .i64 12] w fun e w' => e = .returned (.bool true) ∧ w = w') := Lib.hid (fun w => bool_is (l1In (8 : Int) 1 12 w) hI)
  have CD : Hid (∀ w, Calls Tryz.prog 44 #[.int .i64 d, .int .i64 0, .int .i64 3] w fun e w' => e = .returned (.bool true) ∧ w = w') := Lib.hid (fun w => bool_is (l1In d 0 3 w) hD)
  have CA : Hid (∀ w, Calls Tryz.prog 44 #[.int .i64 a, .int .i64 0, .int .i64 3] w fun e w' => e = .returned (.bool true) ∧ w = w') := Lib.hid (fun w => bool_is (l1In a 0 3 w) hA)
  have CB : Hid (∀ w, Calls Tryz.prog 44 #[.int .i64 b, .int .i64 0, .int .i64 3] w fun e w' => e = .returned (.bool true) ∧ w = w') := Lib.hid (fun w => bool_is (l1In b 0 3 w) hB)
  have CF : Hid (∀ w, Calls Tryz.prog 80 #[Ins.v ⟨(8 : Int), d, a, b, rel, lo, hi, to⟩] w fun e w' => e = .returned (.agg #[.int .i64 0, .int .i64 0, .int .i64 0, .int .i64 0, .int .i64 0, .int .i64 0, .int .i64 0, .int .i64 0]) ∧ Grew w w') := Lib.hid (fun w => by
    have := l3Form ⟨(8 : Int), d, a, b, rel, lo, hi, to⟩ w h1 h2
    rw [hf] at this
    exact this)
  clear hI hD hA hB hf h1 h2
  have hz : insEqB ⟨0, 0, 0, 0, 0, 0, 0, 0⟩ ⟨0, 0, 0, 0, 0, 0, 0, 0⟩ = true := rfl
  go_enter Tryz.func64, Tryz.ntmps64
  go_wp2_with fail
  refine wp_region_ext (by kernel_rfl) (by kernel_rfl) ?_
  repeat (go_big_quiet_step ((first | (with_reducible exact ext_same (CI.out _)) | (with_reducible exact ext_same (CD.out _)) | (with_reducible exact ext_same (CA.out _)) | (with_reducible exact ext_same (CB.out _)) | (with_reducible exact ext_grow (CF.out _)))))
  refine wpQuiet_nil ?_
  intro _ hw'
  obtain ⟨x, hw''⟩ := hw'
  subst hw''
  have HX := Lib.hid (ext_grew _ x)
  go_wp2_with (first | fail | ((with_reducible refine (l1In _ _ _ _).mono ?_); rintro e w1 ⟨rfl, rfl⟩))
  all_goals
    go_ret
    exact ⟨by simp [tailB, *]; try omega, (Below.trans (by go_grown) (Below.mono HX.out (by simp; omega)))⟩

set_option maxRecDepth 100000 in
set_option maxHeartbeats 4000000 in
theorem specInsOkT9 (d a b rel lo hi to procs size : Int) (w : World) (hI : (decide (1 ≤ (9 : Int)) && decide ((9 : Int) ≤ 12)) = true) (h1 : 1 ≤ (9 : Int)) (h2 : (9 : Int) ≤ 12) (hf : formV ⟨(9 : Int), d, a, b, rel, lo, hi, to⟩ = ⟨0, 0, 0, 0, 0, 0, 0, 0⟩) (hD : varB d = true) (hA : varB a = true) (hB : varB b = true) :
    Calls Tryz.prog 64 #[Ins.v ⟨(9 : Int), d, a, b, rel, lo, hi, to⟩, .int .i64 procs, .int .i64 size] w fun e w' => e = .returned (.bool (tailB ⟨(9 : Int), d, a, b, rel, lo, hi, to⟩ procs size)) ∧ Grew w w' := by
  have CI : Hid (∀ w, Calls Tryz.prog 44 #[.int .i64 (9 : Int), .int .i64 1, .int .i64 12] w fun e w' => e = .returned (.bool true) ∧ w = w') := Lib.hid (fun w => bool_is (l1In (9 : Int) 1 12 w) hI)
  have CD : Hid (∀ w, Calls Tryz.prog 44 #[.int .i64 d, .int .i64 0, .int .i64 3] w fun e w' => e = .returned (.bool true) ∧ w = w') := Lib.hid (fun w => bool_is (l1In d 0 3 w) hD)
  have CA : Hid (∀ w, Calls Tryz.prog 44 #[.int .i64 a, .int .i64 0, .int .i64 3] w fun e w' => e = .returned (.bool true) ∧ w = w') := Lib.hid (fun w => bool_is (l1In a 0 3 w) hA)
  have CB : Hid (∀ w, Calls Tryz.prog 44 #[.int .i64 b, .int .i64 0, .int .i64 3] w fun e w' => e = .returned (.bool true) ∧ w = w') := Lib.hid (fun w => bool_is (l1In b 0 3 w) hB)
  have CF : Hid (∀ w, Calls Tryz.prog 80 #[Ins.v ⟨(9 : Int), d, a, b, rel, lo, hi, to⟩] w fun e w' => e = .returned (.agg #[.int .i64 0, .int .i64 0, .int .i64 0, .int .i64 0, .int .i64 0, .int .i64 0, .int .i64 0, .int .i64 0]) ∧ Grew w w') := Lib.hid (fun w => by
    have := l3Form ⟨(9 : Int), d, a, b, rel, lo, hi, to⟩ w h1 h2
    rw [hf] at this
    exact this)
  clear hI hD hA hB hf h1 h2
  have hz : insEqB ⟨0, 0, 0, 0, 0, 0, 0, 0⟩ ⟨0, 0, 0, 0, 0, 0, 0, 0⟩ = true := rfl
  go_enter Tryz.func64, Tryz.ntmps64
  go_wp2_with fail
  refine wp_region_ext (by kernel_rfl) (by kernel_rfl) ?_
  repeat (go_big_quiet_step ((first | (with_reducible exact ext_same (CI.out _)) | (with_reducible exact ext_same (CD.out _)) | (with_reducible exact ext_same (CA.out _)) | (with_reducible exact ext_same (CB.out _)) | (with_reducible exact ext_grow (CF.out _)))))
  refine wpQuiet_nil ?_
  intro _ hw'
  obtain ⟨x, hw''⟩ := hw'
  subst hw''
  have HX := Lib.hid (ext_grew _ x)
  go_wp2_with (first | fail | fail)
  all_goals
    go_ret
    exact ⟨by simp [tailB, *]; try omega, (Below.trans (by go_grown) (Below.mono HX.out (by simp; omega)))⟩

set_option maxRecDepth 100000 in
set_option maxHeartbeats 4000000 in
theorem specInsOkT10 (d a b rel lo hi to procs size : Int) (w : World) (hI : (decide (1 ≤ (10 : Int)) && decide ((10 : Int) ≤ 12)) = true) (h1 : 1 ≤ (10 : Int)) (h2 : (10 : Int) ≤ 12) (hf : formV ⟨(10 : Int), d, a, b, rel, lo, hi, to⟩ = ⟨0, 0, 0, 0, 0, 0, 0, 0⟩) (hD : varB d = true) (hA : varB a = true) (hB : varB b = true) :
    Calls Tryz.prog 64 #[Ins.v ⟨(10 : Int), d, a, b, rel, lo, hi, to⟩, .int .i64 procs, .int .i64 size] w fun e w' => e = .returned (.bool (tailB ⟨(10 : Int), d, a, b, rel, lo, hi, to⟩ procs size)) ∧ Grew w w' := by
  have CI : Hid (∀ w, Calls Tryz.prog 44 #[.int .i64 (10 : Int), .int .i64 1, .int .i64 12] w fun e w' => e = .returned (.bool true) ∧ w = w') := Lib.hid (fun w => bool_is (l1In (10 : Int) 1 12 w) hI)
  have CD : Hid (∀ w, Calls Tryz.prog 44 #[.int .i64 d, .int .i64 0, .int .i64 3] w fun e w' => e = .returned (.bool true) ∧ w = w') := Lib.hid (fun w => bool_is (l1In d 0 3 w) hD)
  have CA : Hid (∀ w, Calls Tryz.prog 44 #[.int .i64 a, .int .i64 0, .int .i64 3] w fun e w' => e = .returned (.bool true) ∧ w = w') := Lib.hid (fun w => bool_is (l1In a 0 3 w) hA)
  have CB : Hid (∀ w, Calls Tryz.prog 44 #[.int .i64 b, .int .i64 0, .int .i64 3] w fun e w' => e = .returned (.bool true) ∧ w = w') := Lib.hid (fun w => bool_is (l1In b 0 3 w) hB)
  have CF : Hid (∀ w, Calls Tryz.prog 80 #[Ins.v ⟨(10 : Int), d, a, b, rel, lo, hi, to⟩] w fun e w' => e = .returned (.agg #[.int .i64 0, .int .i64 0, .int .i64 0, .int .i64 0, .int .i64 0, .int .i64 0, .int .i64 0, .int .i64 0]) ∧ Grew w w') := Lib.hid (fun w => by
    have := l3Form ⟨(10 : Int), d, a, b, rel, lo, hi, to⟩ w h1 h2
    rw [hf] at this
    exact this)
  clear hI hD hA hB hf h1 h2
  have hz : insEqB ⟨0, 0, 0, 0, 0, 0, 0, 0⟩ ⟨0, 0, 0, 0, 0, 0, 0, 0⟩ = true := rfl
  go_enter Tryz.func64, Tryz.ntmps64
  go_wp2_with fail
  refine wp_region_ext (by kernel_rfl) (by kernel_rfl) ?_
  repeat (go_big_quiet_step ((first | (with_reducible exact ext_same (CI.out _)) | (with_reducible exact ext_same (CD.out _)) | (with_reducible exact ext_same (CA.out _)) | (with_reducible exact ext_same (CB.out _)) | (with_reducible exact ext_grow (CF.out _)))))
  refine wpQuiet_nil ?_
  intro _ hw'
  obtain ⟨x, hw''⟩ := hw'
  subst hw''
  have HX := Lib.hid (ext_grew _ x)
  go_wp2_with (first | fail | fail)
  all_goals
    go_ret
    exact ⟨by simp [tailB, *]; try omega, (Below.trans (by go_grown) (Below.mono HX.out (by simp; omega)))⟩

set_option maxRecDepth 100000 in
set_option maxHeartbeats 4000000 in
theorem specInsOkT11 (d a b rel lo hi to procs size : Int) (w : World) (hI : (decide (1 ≤ (11 : Int)) && decide ((11 : Int) ≤ 12)) = true) (h1 : 1 ≤ (11 : Int)) (h2 : (11 : Int) ≤ 12) (hf : formV ⟨(11 : Int), d, a, b, rel, lo, hi, to⟩ = ⟨0, 0, 0, 0, 0, 0, 0, 0⟩) (hD : varB d = true) (hA : varB a = true) (hB : varB b = true) :
    Calls Tryz.prog 64 #[Ins.v ⟨(11 : Int), d, a, b, rel, lo, hi, to⟩, .int .i64 procs, .int .i64 size] w fun e w' => e = .returned (.bool (tailB ⟨(11 : Int), d, a, b, rel, lo, hi, to⟩ procs size)) ∧ Grew w w' := by
  have CI : Hid (∀ w, Calls Tryz.prog 44 #[.int .i64 (11 : Int), .int .i64 1, .int .i64 12] w fun e w' => e = .returned (.bool true) ∧ w = w') := Lib.hid (fun w => bool_is (l1In (11 : Int) 1 12 w) hI)
  have CD : Hid (∀ w, Calls Tryz.prog 44 #[.int .i64 d, .int .i64 0, .int .i64 3] w fun e w' => e = .returned (.bool true) ∧ w = w') := Lib.hid (fun w => bool_is (l1In d 0 3 w) hD)
  have CA : Hid (∀ w, Calls Tryz.prog 44 #[.int .i64 a, .int .i64 0, .int .i64 3] w fun e w' => e = .returned (.bool true) ∧ w = w') := Lib.hid (fun w => bool_is (l1In a 0 3 w) hA)
  have CB : Hid (∀ w, Calls Tryz.prog 44 #[.int .i64 b, .int .i64 0, .int .i64 3] w fun e w' => e = .returned (.bool true) ∧ w = w') := Lib.hid (fun w => bool_is (l1In b 0 3 w) hB)
  have CF : Hid (∀ w, Calls Tryz.prog 80 #[Ins.v ⟨(11 : Int), d, a, b, rel, lo, hi, to⟩] w fun e w' => e = .returned (.agg #[.int .i64 0, .int .i64 0, .int .i64 0, .int .i64 0, .int .i64 0, .int .i64 0, .int .i64 0, .int .i64 0]) ∧ Grew w w') := Lib.hid (fun w => by
    have := l3Form ⟨(11 : Int), d, a, b, rel, lo, hi, to⟩ w h1 h2
    rw [hf] at this
    exact this)
  clear hI hD hA hB hf h1 h2
  have hz : insEqB ⟨0, 0, 0, 0, 0, 0, 0, 0⟩ ⟨0, 0, 0, 0, 0, 0, 0, 0⟩ = true := rfl
  go_enter Tryz.func64, Tryz.ntmps64
  go_wp2_with fail
  refine wp_region_ext (by kernel_rfl) (by kernel_rfl) ?_
  repeat (go_big_quiet_step ((first | (with_reducible exact ext_same (CI.out _)) | (with_reducible exact ext_same (CD.out _)) | (with_reducible exact ext_same (CA.out _)) | (with_reducible exact ext_same (CB.out _)) | (with_reducible exact ext_grow (CF.out _)))))
  refine wpQuiet_nil ?_
  intro _ hw'
  obtain ⟨x, hw''⟩ := hw'
  subst hw''
  have HX := Lib.hid (ext_grew _ x)
  go_wp2_with (first | fail | ((with_reducible refine (l1In _ _ _ _).mono ?_); rintro e w1 ⟨rfl, rfl⟩))
  all_goals
    go_ret
    exact ⟨by simp [tailB, *]; try omega, (Below.trans (by go_grown) (Below.mono HX.out (by simp; omega)))⟩

set_option maxRecDepth 100000 in
set_option maxHeartbeats 4000000 in
theorem specInsOkT0 (op d a b rel lo hi to procs size : Int) (w : World) (hI : (decide (1 ≤ op) && decide (op ≤ 12)) = true) (h1 : 1 ≤ op) (h2 : op ≤ 12) (hf : formV ⟨op, d, a, b, rel, lo, hi, to⟩ = ⟨0, 0, 0, 0, 0, 0, 0, 0⟩) (hD : varB d = true) (hA : varB a = true) (hB : varB b = true) (ho : op ≠ 5 ∧ op ≠ 8 ∧ op ≠ 9 ∧ op ≠ 10 ∧ op ≠ 11) :
    Calls Tryz.prog 64 #[Ins.v ⟨op, d, a, b, rel, lo, hi, to⟩, .int .i64 procs, .int .i64 size] w fun e w' => e = .returned (.bool (tailB ⟨op, d, a, b, rel, lo, hi, to⟩ procs size)) ∧ Grew w w' := by
  have CI : Hid (∀ w, Calls Tryz.prog 44 #[.int .i64 op, .int .i64 1, .int .i64 12] w fun e w' => e = .returned (.bool true) ∧ w = w') := Lib.hid (fun w => bool_is (l1In op 1 12 w) hI)
  have CD : Hid (∀ w, Calls Tryz.prog 44 #[.int .i64 d, .int .i64 0, .int .i64 3] w fun e w' => e = .returned (.bool true) ∧ w = w') := Lib.hid (fun w => bool_is (l1In d 0 3 w) hD)
  have CA : Hid (∀ w, Calls Tryz.prog 44 #[.int .i64 a, .int .i64 0, .int .i64 3] w fun e w' => e = .returned (.bool true) ∧ w = w') := Lib.hid (fun w => bool_is (l1In a 0 3 w) hA)
  have CB : Hid (∀ w, Calls Tryz.prog 44 #[.int .i64 b, .int .i64 0, .int .i64 3] w fun e w' => e = .returned (.bool true) ∧ w = w') := Lib.hid (fun w => bool_is (l1In b 0 3 w) hB)
  have CF : Hid (∀ w, Calls Tryz.prog 80 #[Ins.v ⟨op, d, a, b, rel, lo, hi, to⟩] w fun e w' => e = .returned (.agg #[.int .i64 0, .int .i64 0, .int .i64 0, .int .i64 0, .int .i64 0, .int .i64 0, .int .i64 0, .int .i64 0]) ∧ Grew w w') := Lib.hid (fun w => by
    have := l3Form ⟨op, d, a, b, rel, lo, hi, to⟩ w h1 h2
    rw [hf] at this
    exact this)
  clear hI hD hA hB hf h1 h2
  have hz : insEqB ⟨0, 0, 0, 0, 0, 0, 0, 0⟩ ⟨0, 0, 0, 0, 0, 0, 0, 0⟩ = true := rfl
  have HT : Hid (tailB ⟨op, d, a, b, rel, lo, hi, to⟩ procs size = true) := Lib.hid (by simp [tailB, ho])
  obtain ⟨n5, n8, n9, n10, n11⟩ := ho
  have m5 : (op == 5) = false := by simpa using n5
  have m8 : (op == 8) = false := by simpa using n8
  have m9 : (op == 9) = false := by simpa using n9
  have m10 : (op == 10) = false := by simpa using n10
  have m11 : (op == 11) = false := by simpa using n11
  clear n5 n8 n9 n10 n11
  go_enter Tryz.func64, Tryz.ntmps64
  go_wp2_with fail
  refine wp_region_ext (by kernel_rfl) (by kernel_rfl) ?_
  repeat (go_big_quiet_step ((first | (with_reducible exact ext_same (CI.out _)) | (with_reducible exact ext_same (CD.out _)) | (with_reducible exact ext_same (CA.out _)) | (with_reducible exact ext_same (CB.out _)) | (with_reducible exact ext_grow (CF.out _)))))
  refine wpQuiet_nil ?_
  intro _ hw'
  obtain ⟨x, hw''⟩ := hw'
  subst hw''
  have HX := Lib.hid (ext_grew _ x)
  go_wp2
  go_ret
  exact ⟨by rw [HT.out]; rfl, (Below.trans (by go_grown) (Below.mono HX.out (by simp; omega)))⟩

theorem specInsOk (i : Ins) (procs size : Int) (w : World) :
    Calls Tryz.prog 64 #[i.v, .int .i64 procs, .int .i64 size] w fun e w' => e = .returned (.bool (insOkB i procs size)) ∧ Grew w w' := by
  obtain ⟨op, d, a, b, rel, lo, hi, to⟩ := i
  cases hI : (decide (1 ≤ op) && decide (op ≤ 12))
  · rw [show insOkB ⟨op, d, a, b, rel, lo, hi, to⟩ procs size = false from by simp only [insOkB, headB, hI, Bool.false_and]]
    exact specInsOkI _ _ _ _ _ _ _ _ _ _ _ hI
  have hop : 1 ≤ op ∧ op ≤ 12 := by simpa using hI
  cases hf : decide (formV ⟨op, d, a, b, rel, lo, hi, to⟩ = ⟨0, 0, 0, 0, 0, 0, 0, 0⟩)
  · rw [show insOkB ⟨op, d, a, b, rel, lo, hi, to⟩ procs size = false from by simp only [insOkB, headB, hf, Bool.false_and, Bool.and_false]]
    obtain ⟨⟨op2, d2, a2, b2, rel2, lo2, hi2, to2⟩, hv⟩ : ∃ v, formV ⟨op, d, a, b, rel, lo, hi, to⟩ = v := ⟨_, rfl⟩
    refine specInsOkF _ _ _ _ _ _ _ _ _ _ _ hI hop.1 hop.2 _ _ _ _ _ _ _ _ hv ?_
    rw [hv] at hf
    exact hf
  have hf := of_decide_eq_true hf
  cases hD : varB d
  · rw [show insOkB ⟨op, d, a, b, rel, lo, hi, to⟩ procs size = false from by simp only [insOkB, headB, hD, Bool.false_and, Bool.and_false]]
    exact specInsOkD _ _ _ _ _ _ _ _ _ _ _ hI hop.1 hop.2 hf hD
  cases hA : varB a
  · rw [show insOkB ⟨op, d, a, b, rel, lo, hi, to⟩ procs size = false from by simp only [insOkB, headB, hA, Bool.false_and, Bool.and_false]]
    exact specInsOkA _ _ _ _ _ _ _ _ _ _ _ hI hop.1 hop.2 hf hD hA
  cases hB : varB b
  · rw [show insOkB ⟨op, d, a, b, rel, lo, hi, to⟩ procs size = false from by simp only [insOkB, headB, hB, Bool.false_and, Bool.and_false]]
    exact specInsOkB _ _ _ _ _ _ _ _ _ _ _ hI hop.1 hop.2 hf hD hA hB
  rw [show insOkB ⟨op, d, a, b, rel, lo, hi, to⟩ procs size = tailB ⟨op, d, a, b, rel, lo, hi, to⟩ procs size from by simp only [insOkB, headB, hI, hf, hD, hA, hB, Bool.true_and, decide_true]]
  by_cases h5 : op = 5
  · subst h5; exact specInsOkT5 _ _ _ _ _ _ _ _ _ _ hI hop.1 hop.2 hf hD hA hB
  by_cases h8 : op = 8
  · subst h8; exact specInsOkT8 _ _ _ _ _ _ _ _ _ _ hI hop.1 hop.2 hf hD hA hB
  by_cases h9 : op = 9
  · subst h9; exact specInsOkT9 _ _ _ _ _ _ _ _ _ _ hI hop.1 hop.2 hf hD hA hB
  by_cases h10 : op = 10
  · subst h10; exact specInsOkT10 _ _ _ _ _ _ _ _ _ _ hI hop.1 hop.2 hf hD hA hB
  by_cases h11 : op = 11
  · subst h11; exact specInsOkT11 _ _ _ _ _ _ _ _ _ _ hI hop.1 hop.2 hf hD hA hB
  exact specInsOkT0 _ _ _ _ _ _ _ _ _ _ _ hI hop.1 hop.2 hf hD hA hB ⟨h5, h8, h9, h10, h11⟩
end Go.Proofs.YtmcfengnihomcaaGreat

/- Programs: their sizes, and whether two are the same. No condition. -/
namespace Go.Proofs.YtmcfengnihomcaaGreat
open Go.RowKit
set_option linter.unusedVariables false
attribute [local go_sem] ext_cell ext_frozen ext_lt ext_le ext_le1 lt_s2 lt_s3 lt_s4 lt_s5 lt_s6 ext_lt1 ext_lt2 ext_lt3

theorem szInsInsS (a : Option Addr) (n cap : Nat) (left : Int) (w : World) (h0 : 0 ≤ left) (h1 : left ≤ 1048576) (hn : n ≤ 9223372036854775807) :
    Calls Tryz.prog 43 #[.slice a n cap, .int .i64 left] w fun e w' => e = .returned (.int .i64 (if left < n then -1 else left - n)) ∧ w = w' := by
  by_cases h : left < n
  · have h2 : left - n < 0 := by omega
    rw [if_pos h]
    clear h
    go_enter Tryz.func43, Tryz.ntmps43
    go_wp2
    go_ret
    exact ⟨rfl, rfl⟩
  · have h2 : ¬ left - n < 0 := by omega
    have h3 : 0 ≤ left - n := by omega
    rw [if_neg h]
    clear h
    go_enter Tryz.func43, Tryz.ntmps43
    go_wp2
    go_ret
    exact ⟨rfl, rfl⟩

theorem szPrcProc (lo hi : Int) (a : Option Addr) (n cap : Nat) (left : Int) (w : World) (h0 : 0 ≤ left) (h1 : left ≤ 1048576) (hn : n ≤ 9223372036854775807) :
    Calls Tryz.prog 28 #[.agg #[.int .i64 lo, .int .i64 hi, .slice a n cap], .int .i64 left] w fun e w' => e = .returned (.int .i64 (if left < n then -1 else left - n)) ∧ Grew w w' := by
  by_cases h : left < n
  · have C := fun w => szInsInsS a n cap left w h0 h1 hn
    rw [if_pos h] at C ⊢
    have HC := Lib.hid C; clear C h
    go_enter Tryz.func28, Tryz.ntmps28
    go_wp2_with ((with_reducible refine (HC.out _).mono ?_); rintro e w' ⟨rfl, rfl⟩)
    go_ret
    refine ⟨rfl, ?_⟩
    repeat (first | with_reducible exact Below.refl _ _ | with_reducible assumption | with_reducible apply grew_ext | with_reducible apply grew_al | with_reducible apply grew_dn | with_reducible apply grew_d | (with_reducible refine grew_set ?_ (by first | omega | (repeat (first | with_reducible exact Nat.le_refl _ | with_reducible apply le_pl | with_reducible apply le_ext | with_reducible apply le_al))) _))
  · have C := fun w => szInsInsS a n cap left w h0 h1 hn
    have h3 : ¬ left - n < 0 := by omega
    rw [if_neg h] at C ⊢
    have HC := Lib.hid C; clear C h
    go_enter Tryz.func28, Tryz.ntmps28
    go_wp2_with ((with_reducible refine (HC.out _).mono ?_); rintro e w' ⟨rfl, rfl⟩)
    go_ret
    refine ⟨rfl, ?_⟩
    repeat (first | with_reducible exact Below.refl _ _ | with_reducible assumption | with_reducible apply grew_ext | with_reducible apply grew_al | with_reducible apply grew_dn | with_reducible apply grew_d | (with_reducible refine grew_set ?_ (by first | omega | (repeat (first | with_reducible exact Nat.le_refl _ | with_reducible apply le_pl | with_reducible apply le_ext | with_reducible apply le_al))) _))

/-- What is told of sizes: too much, or all are small. -/
def RetSz (n : Nat) (ps : List Prc) (left : Int) (w : World) (e : Ending) (w' : World) : Prop :=
  ∃ z : Int, e = .returned (.int .i64 z) ∧ (z = -1 ∨ (0 ≤ z ∧ z ≤ left ∧ n ≤ 1048576 ∧ ∀ p, p ∈ ps → p.code.length ≤ 1048576)) ∧ Grew w w'

set_option maxHeartbeats 1000000 in
theorem szPrcProcS (a : Option Addr) (n cap : Nat) (ps : List Prc) (left : Int) (w : World) (hr : RdP w a n ps) (h0 : 0 ≤ left) (h1 : left ≤ 1048576) (hn : n ≤ 9223372036854775807) :
    Calls Tryz.prog 19 #[.slice a n cap, .int .i64 left] w (RetSz n ps left w) := by
  have HL := Lib.hid hr.len
  have HR := Lib.hid hr; clear hr
  by_cases h : left < n
  · have h2 : left - n < 0 := by omega
    clear h
    go_enter Tryz.func19, Tryz.ntmps19
    go_wp2
    go_ret
    exact ⟨-1, rfl, .inl rfl, Below.refl _ _⟩
  · have h2 : ¬ left - n < 0 := by omega
    have h3 : 0 ≤ left - n := by omega
    have hn2 : n ≤ 1048576 := by omega
    clear h
    go_enter Tryz.func19, Tryz.ntmps19
    go_wp2
    go_loopw [1, 5] (fun z i wr => ∃ (k : Nat) (L : Int), k ≤ n ∧ i = .int .i64 k ∧ z = .int .i64 L ∧ 0 ≤ L ∧ L ≤ left ∧ Grew w wr ∧ ∀ p, p ∈ ps.take k → p.code.length ≤ 1048576) (fun _ i _ => n - (Go.RowKit.intOf i).toNat)
    case atStart => exact ⟨0, _, Nat.zero_le _, rfl, rfl, h3, by omega, Below.refl _ _, by simp⟩
    case round =>
      obtain ⟨k, L, hk, rfl, rfl, hL0, hL1, hg, hps⟩ := hrel
      have HP := Lib.hid hps; clear hps
      by_cases hlt : k < n
      · obtain ⟨b, off, lo, hi, is, ia, ic, rfl, hx, c0, c1, c2, hb, hi1, hi2, hi3⟩ := rdP_at (HR.out.grew hg) hlt
        have HX := Lib.hid hx; clear hx
        have HG := Lib.hid hg; clear hg
        have hic : is.length ≤ 9223372036854775807 := by unfold maxLen at hi3; omega
        clear hi1 hi2 hi3
        have C := fun w => szPrcProc lo hi ia is.length ic L w hL0 (by omega) hic
        by_cases hs : L < is.length
        · rw [if_pos hs] at C
          have HC := Lib.hid C; clear C hs
          go_wp2_with ((with_reducible refine (HC.out _).mono ?_); rintro e w' ⟨rfl, g'⟩; (first | obtain ⟨x, rfl⟩ := ext_cold g' | obtain ⟨x, rfl⟩ := ext_col g' | obtain ⟨x, rfl⟩ := ext_of g'); clear g')
          go_ret
          refine ⟨-1, rfl, .inl rfl, ?_⟩
          apply grew_ext
          exact HG.out
        · rw [if_neg hs] at C
          have HC := Lib.hid C; clear C
          have h4 : ¬ L - is.length < 0 := by omega
          have h5 : 0 ≤ L - is.length := by omega
          have hsm : is.length ≤ 1048576 := by omega
          clear hs
          go_wp2_with ((with_reducible refine (HC.out _).mono ?_); rintro e w' ⟨rfl, g'⟩; (first | obtain ⟨x, rfl⟩ := ext_cold g' | obtain ⟨x, rfl⟩ := ext_col g' | obtain ⟨x, rfl⟩ := ext_of g'); clear g')
          go_roundw
          case rel =>
            refine ⟨k + 1, _, by omega, by go_num, rfl, h5, by omega, grew_ext HG.out x, fun p hp => ?_⟩
            rw [take_get HX.out] at hp
            rcases List.mem_append.1 hp with hp | hp
            · exact HP.out p hp
            · obtain rfl := List.mem_singleton.1 hp
              exact hsm
          case measure => simp [Go.RowKit.intOf]; omega
      · have HG := Lib.hid hg; clear hg
        go_wp2
        go_ret
        exact ⟨L, rfl, .inr ⟨hL0, by omega, hn2, fun p hp => HP.out p (by rw [List.take_of_length_le (by have := HL.out; omega)]; exact hp)⟩, HG.out⟩

theorem szPrgProg (a : Option Addr) (n cap : Nat) (ps : List Prc) (left : Int) (w : World) (hr : RdP w a n ps) (h0 : 0 ≤ left) (h1 : left ≤ 1048576) (hn : n ≤ 9223372036854775807) :
    Calls Tryz.prog 5 #[.agg #[.slice a n cap], .int .i64 left] w (RetSz n ps left w) := by
  have HR := Lib.hid hr; clear hr
  go_enter Tryz.func5, Tryz.ntmps5
  go_wp2_with fail
  refine (szPrcProcS a n cap ps left _ (HR.out.grew (by unfold Grew; go_grown)) h0 h1 hn).mono ?_
  rintro e w1 ⟨z, rfl, hz, g1⟩
  obtain ⟨x, rfl⟩ := ext_of g1
  clear g1
  rcases hz with rfl | ⟨z0, z1, z2⟩
  · go_wp2
    go_ret
    refine ⟨-1, rfl, .inl rfl, ?_⟩
    repeat (first | with_reducible exact Below.refl _ _ | with_reducible assumption | with_reducible apply grew_ext | with_reducible apply grew_al | with_reducible apply grew_dn | with_reducible apply grew_d | (with_reducible refine grew_set ?_ (by first | omega | (repeat (first | with_reducible exact Nat.le_refl _ | with_reducible apply le_pl | with_reducible apply le_ext | with_reducible apply le_al))) _))
  · have hz2 := Lib.hid z2; clear z2
    go_wp2
    go_ret
    refine ⟨z, rfl, .inr ⟨z0, z1, hz2.out⟩, ?_⟩
    repeat (first | with_reducible exact Below.refl _ _ | with_reducible assumption | with_reducible apply grew_ext | with_reducible apply grew_al | with_reducible apply grew_dn | with_reducible apply grew_d | (with_reducible refine grew_set ?_ (by first | omega | (repeat (first | with_reducible exact Nat.le_refl _ | with_reducible apply le_pl | with_reducible apply le_ext | with_reducible apply le_al))) _))

set_option maxHeartbeats 2000000 in
theorem eqInsIns (i j : Ins) (w : World) :
    Calls Tryz.prog 79 #[i.v, j.v] w fun e w' => e = .returned (.bool (insEqB i j)) ∧ Grew w w' := by
  obtain ⟨op, d, a, b, rel, lo, hi, to⟩ := i
  obtain ⟨op', d', a', b', rel', lo', hi', to'⟩ := j
  go_enter Tryz.func79, Tryz.ntmps79
  go_wp2
  all_goals
    go_ret
    refine ⟨by go_light; simp_all [insEqB], ?_⟩
    repeat (first | with_reducible exact Below.refl _ _ | with_reducible assumption | with_reducible apply grew_ext | with_reducible apply grew_al | with_reducible apply grew_dn | with_reducible apply grew_d | (with_reducible refine grew_set ?_ (by first | omega | (repeat (first | with_reducible exact Nat.le_refl _ | with_reducible apply le_pl | with_reducible apply le_ext | with_reducible apply le_al))) _))

theorem insEqB_iff {i j : Ins} : insEqB i j = true ↔ i = j := by simp [insEqB]

set_option maxHeartbeats 1000000 in
theorem eqInsInsS (a a' : Option Addr) (n n' cap cap' : Nat) (is js : List Ins) (w : World) (hr : RdL EIns 8 w a n is) (hr' : RdL EIns 8 w a' n' js) (hn : n ≤ 9223372036854775807) (hn' : n' ≤ 9223372036854775807) :
    Calls Tryz.prog 62 #[.slice a n cap, .slice a' n' cap'] w fun e w' => e = .returned (.bool (decide (is = js))) ∧ Grew w w' := by
  have HL := Lib.hid hr.len
  have HL' := Lib.hid hr'.len
  have HR := Lib.hid hr; clear hr
  have HR' := Lib.hid hr'; clear hr'
  by_cases hnn : n = n'
  · subst hnn
    go_enter Tryz.func62, Tryz.ntmps62
    go_wp2
    go_loopw [5] (fun i wr => ∃ k : Nat, k ≤ n ∧ i = .int .i64 k ∧ Grew w wr ∧ is.take k = js.take k) (fun i _ => n - (Go.RowKit.intOf i).toNat)
    case atStart => exact ⟨0, Nat.zero_le _, rfl, Below.refl _ _, by simp⟩
    case round =>
      obtain ⟨k, hk, rfl, hg, he⟩ := hrel
      have HE := Lib.hid he; clear he
      by_cases hlt : k < n
      · obtain ⟨b, off, op, d, ia, ib, rel, lo, hi, to, rfl, hx, c0, c1, c2, c3, c4, c5, c6, c7, hb⟩ := rdI_at (HR.out.grew stays_ins hg) hlt
        obtain ⟨b', off', op', d', ia', ib', rel', lo', hi', to', rfl, hx', c0', c1', c2', c3', c4', c5', c6', c7', hb'⟩ := rdI_at (HR'.out.grew stays_ins hg) hlt
        have HX := Lib.hid hx; clear hx
        have HX' := Lib.hid hx'; clear hx'
        have HG := Lib.hid hg; clear hg
        have C := fun w => eqInsIns ⟨op, d, ia, ib, rel, lo, hi, to⟩ ⟨op', d', ia', ib', rel', lo', hi', to'⟩ w
        cases hq : insEqB ⟨op, d, ia, ib, rel, lo, hi, to⟩ ⟨op', d', ia', ib', rel', lo', hi', to'⟩
        · have hfin : decide (is = js) = false := decide_eq_false (fun e => by
            have h1 := HX.out
            rw [e, HX'.out] at h1
            have := Option.some.inj h1
            rw [this] at hq
            simp [insEqB] at hq)
          have HF := Lib.hid hfin; clear hfin
          rw [hq] at C
          have HC := Lib.hid C; clear C hq
          go_wp2_with fail
          first | refine wp_region_ext2 (by kernel_rfl) (by kernel_rfl) ?_ | refine wp_region_ext (by kernel_rfl) (by kernel_rfl) ?_
          repeat (go_big_quiet_step ((first | (with_reducible exact ext_grow (HC.out _)))))
          refine wpQuiet_nil ?_
          intro _ hw'
          obtain ⟨x, hw''⟩ := hw'
          subst hw''
          go_wp2
          go_ret
          exact ⟨by rw [HF.out]; rfl, grew_ext HG.out x⟩
        · have HQ := Lib.hid (insEqB_iff.1 hq)
          rw [hq] at C
          have HC := Lib.hid C; clear C hq
          go_wp2_with fail
          first | refine wp_region_ext2 (by kernel_rfl) (by kernel_rfl) ?_ | refine wp_region_ext (by kernel_rfl) (by kernel_rfl) ?_
          repeat (go_big_quiet_step ((first | (with_reducible exact ext_grow (HC.out _)))))
          refine wpQuiet_nil ?_
          intro _ hw'
          obtain ⟨x, hw''⟩ := hw'
          subst hw''
          go_wp2
          go_roundw
          case rel => exact ⟨k + 1, by omega, by go_num, grew_ext HG.out x, by rw [take_get HX.out, take_get HX'.out, HE.out, HQ.out]⟩
          case measure => simp [Go.RowKit.intOf]; omega
      · have HG := Lib.hid hg; clear hg
        have : is = js := by
          have h := HE.out
          rwa [List.take_of_length_le (by have := HL.out; omega), List.take_of_length_le (by have := HL'.out; omega)] at h
        have HF := Lib.hid (decide_eq_true this); clear this
        go_wp2
        go_ret
        exact ⟨by rw [HF.out]; rfl, HG.out⟩
  · have hfin : decide (is = js) = false := decide_eq_false (fun e => by
      have h1 := HL.out
      rw [e, HL'.out] at h1
      exact hnn h1.symm)
    have hb : ((n : Int) != (n' : Int)) = true := by simp; omega
    have HF := Lib.hid hfin; clear hfin hnn
    go_enter Tryz.func62, Tryz.ntmps62
    go_wp2
    go_ret
    exact ⟨by rw [HF.out]; rfl, Below.refl _ _⟩

/-- Whether two procedures are the same. -/
def prcEqB (p q : Prc) : Bool := decide (p.lo = q.lo) && decide (p.hi = q.hi) && decide (p.code = q.code)
theorem prcEqB_iff {p q : Prc} : prcEqB p q = true ↔ p = q := by
  obtain ⟨a, b, c⟩ := p
  obtain ⟨a', b', c'⟩ := q
  simp [prcEqB, and_assoc]

set_option maxHeartbeats 1000000 in
theorem eqPrcProc (lo hi lo' hi' : Int) (a a' : Option Addr) (n n' cap cap' : Nat) (is js : List Ins) (w : World) (hr : RdL EIns 8 w a n is) (hr' : RdL EIns 8 w a' n' js) (hn : n ≤ 9223372036854775807) (hn' : n' ≤ 9223372036854775807) :
    Calls Tryz.prog 38 #[.agg #[.int .i64 lo, .int .i64 hi, .slice a n cap], .agg #[.int .i64 lo', .int .i64 hi', .slice a' n' cap']] w fun e w' => e = .returned (.bool (prcEqB ⟨lo, hi, is⟩ ⟨lo', hi', js⟩)) ∧ Grew w w' := by
  have C := fun W (h : Grew w W) => eqInsInsS a a' n n' cap cap' is js W (hr.grew stays_ins h) (hr'.grew stays_ins h) hn hn'
  clear hr hr'
  obtain ⟨B, hB⟩ : ∃ B, decide (is = js) = B := ⟨_, rfl⟩
  rw [hB] at C
  have HC := Lib.hid C; clear C
  have HB := Lib.hid hB; clear hB
  cases B
  all_goals
    go_enter Tryz.func38, Tryz.ntmps38
    go_wp2_with ((with_reducible refine (HC.out _ (by unfold Grew; go_grown)).mono ?_); rintro e w' ⟨rfl, g'⟩; (first | obtain ⟨x, rfl⟩ := ext_cold g' | obtain ⟨x, rfl⟩ := ext_col g' | obtain ⟨x, rfl⟩ := ext_of g'); clear g')
    all_goals
      go_ret
      refine ⟨by have hb := HB.out; go_light; simp_all [prcEqB], ?_⟩
      repeat (first | with_reducible exact Below.refl _ _ | with_reducible assumption | with_reducible apply grew_ext | with_reducible apply grew_al | with_reducible apply grew_dn | with_reducible apply grew_d | (with_reducible refine grew_set ?_ (by first | omega | (repeat (first | with_reducible exact Nat.le_refl _ | with_reducible apply le_pl | with_reducible apply le_ext | with_reducible apply le_al))) _))

set_option maxHeartbeats 1000000 in
theorem eqPrcProcS (a a' : Option Addr) (n n' cap cap' : Nat) (ps qs : List Prc) (w : World) (hr : RdP w a n ps) (hr' : RdP w a' n' qs) (hn : n ≤ 9223372036854775807) (hn' : n' ≤ 9223372036854775807) :
    Calls Tryz.prog 24 #[.slice a n cap, .slice a' n' cap'] w fun e w' => e = .returned (.bool (decide (ps = qs))) ∧ Grew w w' := by
  have HL := Lib.hid hr.len
  have HL' := Lib.hid hr'.len
  have HR := Lib.hid hr; clear hr
  have HR' := Lib.hid hr'; clear hr'
  by_cases hnn : n = n'
  · subst hnn
    go_enter Tryz.func24, Tryz.ntmps24
    go_wp2
    go_loopw [5] (fun i wr => ∃ k : Nat, k ≤ n ∧ i = .int .i64 k ∧ Grew w wr ∧ ps.take k = qs.take k) (fun i _ => n - (Go.RowKit.intOf i).toNat)
    case atStart => exact ⟨0, Nat.zero_le _, rfl, Below.refl _ _, by simp⟩
    case round =>
      obtain ⟨k, hk, rfl, hg, he⟩ := hrel
      have HE := Lib.hid he; clear he
      by_cases hlt : k < n
      · obtain ⟨b, off, lo, hi, is, ia, ic, rfl, hx, c0, c1, c2, hb, hi1, hi2, hi3⟩ := rdP_at (HR.out.grew hg) hlt
        obtain ⟨b', off', lo', hi', is', ia', ic', rfl, hx', c0', c1', c2', hb', hi1', hi2', hi3'⟩ := rdP_at (HR'.out.grew hg) hlt
        have HX := Lib.hid hx; clear hx
        have HX' := Lib.hid hx'; clear hx'
        have HG := Lib.hid hg; clear hg
        have C := fun x => eqPrcProc lo hi lo' hi' ia ia' is.length is'.length ic ic' is is' (ext wr x) (hi1.grew stays_ins (ext_grew _ x)) (hi1'.grew stays_ins (ext_grew _ x)) (by unfold maxLen at hi3; omega) (by unfold maxLen at hi3'; omega)
        clear hi1 hi2 hi3 hi1' hi2' hi3'
        cases hq : prcEqB ⟨lo, hi, is⟩ ⟨lo', hi', is'⟩
        · have hfin : decide (ps = qs) = false := decide_eq_false (fun e => by
            have h1 := HX.out
            rw [e, HX'.out] at h1
            have := Option.some.inj h1
            rw [this] at hq
            simp [prcEqB] at hq)
          have HF := Lib.hid hfin; clear hfin
          rw [hq] at C
          have HC := Lib.hid C; clear C hq
          go_wp2_with fail
          first | refine wp_region_ext2 (by kernel_rfl) (by kernel_rfl) ?_ | refine wp_region_ext (by kernel_rfl) (by kernel_rfl) ?_
          repeat (go_big_quiet_step ((first | (with_reducible exact ext_grow (HC.out _)))))
          refine wpQuiet_nil ?_
          intro _ hw'
          obtain ⟨x, hw''⟩ := hw'
          subst hw''
          go_wp2
          go_ret
          exact ⟨by rw [HF.out]; rfl, grew_ext HG.out x⟩
        · have HQ := Lib.hid (prcEqB_iff.1 hq)
          rw [hq] at C
          have HC := Lib.hid C; clear C hq
          go_wp2_with fail
          first | refine wp_region_ext2 (by kernel_rfl) (by kernel_rfl) ?_ | refine wp_region_ext (by kernel_rfl) (by kernel_rfl) ?_
          repeat (go_big_quiet_step ((first | (with_reducible exact ext_grow (HC.out _)))))
          refine wpQuiet_nil ?_
          intro _ hw'
          obtain ⟨x, hw''⟩ := hw'
          subst hw''
          go_wp2
          go_roundw
          case rel => exact ⟨k + 1, by omega, by go_num, grew_ext HG.out x, by rw [take_get HX.out, take_get HX'.out, HE.out, HQ.out]⟩
          case measure => simp [Go.RowKit.intOf]; omega
      · have HG := Lib.hid hg; clear hg
        have : ps = qs := by
          have h := HE.out
          rwa [List.take_of_length_le (by have := HL.out; omega), List.take_of_length_le (by have := HL'.out; omega)] at h
        have HF := Lib.hid (decide_eq_true this); clear this
        go_wp2
        go_ret
        exact ⟨by rw [HF.out]; rfl, HG.out⟩
  · have hfin : decide (ps = qs) = false := decide_eq_false (fun e => by
      have h1 := HL.out
      rw [e, HL'.out] at h1
      exact hnn h1.symm)
    have hb : ((n : Int) != (n' : Int)) = true := by simp; omega
    have HF := Lib.hid hfin; clear hfin hnn
    go_enter Tryz.func24, Tryz.ntmps24
    go_wp2
    go_ret
    exact ⟨by rw [HF.out]; rfl, Below.refl _ _⟩

theorem eqPrgProg (a a' : Option Addr) (n n' cap cap' : Nat) (ps qs : List Prc) (w : World) (hr : RdP w a n ps) (hr' : RdP w a' n' qs) (hn : n ≤ 9223372036854775807) (hn' : n' ≤ 9223372036854775807) :
    Calls Tryz.prog 10 #[.agg #[.slice a n cap], .agg #[.slice a' n' cap']] w fun e w' => e = .returned (.bool (decide (ps = qs))) ∧ Grew w w' := by
  have C := fun W (h : Grew w W) => eqPrcProcS a a' n n' cap cap' ps qs W (hr.grew h) (hr'.grew h) hn hn'
  clear hr hr'
  generalize decide (ps = qs) = B at *
  have HC := Lib.hid C; clear C
  cases B
  all_goals
    go_enter Tryz.func10, Tryz.ntmps10
    go_wp2_with ((with_reducible refine (HC.out _ (by unfold Grew; go_grown)).mono ?_); rintro e w' ⟨rfl, g'⟩; (first | obtain ⟨x, rfl⟩ := ext_cold g' | obtain ⟨x, rfl⟩ := ext_col g' | obtain ⟨x, rfl⟩ := ext_of g'); clear g')
    go_ret
    refine ⟨rfl, ?_⟩
    repeat (first | with_reducible exact Below.refl _ _ | with_reducible assumption | with_reducible apply grew_ext | with_reducible apply grew_al | with_reducible apply grew_dn | with_reducible apply grew_d | (with_reducible refine grew_set ?_ (by first | omega | (repeat (first | with_reducible exact Nat.le_refl _ | with_reducible apply le_pl | with_reducible apply le_ext | with_reducible apply le_al))) _))
end Go.Proofs.YtmcfengnihomcaaGreat

/- The kinds of instructions: type assertions and the method ins. No condition. -/
namespace Go.Proofs.YtmcfengnihomcaaGreat
open Go.RowKit
set_option linter.unusedVariables false

theorem methArith (n : Nat) (op d a b : Int) (w : World) : (method (n + 1) 123 (.agg #[.int .i64 op, .int .i64 d, .int .i64 a, .int .i64 b]) "loop.example/outwork/impl.ins").run Tryz.prog w = .ok (122, .agg #[.int .i64 op, .int .i64 d, .int .i64 a, .int .i64 b]) w := by kernel_rfl
theorem asArith (v : Value) (xT : TypeId) (w : World) : (Instr.typeAssert (.iface 123 v) xT 123 true).run Tryz.prog w = .ok (.tuple #[v, .bool true]) w := by kernel_rfl
theorem asNotArith (t : TypeId) (v : Value) (xT : TypeId) (w : World) (h : t ≠ 123) : (Instr.typeAssert (.iface t v) xT 123 true).run Tryz.prog w = .ok (.tuple #[.agg #[.int .i64 0, .int .i64 0, .int .i64 0, .int .i64 0], .bool false]) w := by simp [Instr.typeAssert, go_sem, h]
theorem asNilArith (xT : TypeId) (w : World) : (Instr.typeAssert .nilIface xT 123 true).run Tryz.prog w = .ok (.tuple #[.agg #[.int .i64 0, .int .i64 0, .int .i64 0, .int .i64 0], .bool false]) w := by kernel_rfl
theorem methAny (n : Nat) (d lo hi : Int) (w : World) : (method (n + 1) 106 (.agg #[.int .i64 d, .int .i64 lo, .int .i64 hi]) "loop.example/outwork/impl.ins").run Tryz.prog w = .ok (117, .agg #[.int .i64 d, .int .i64 lo, .int .i64 hi]) w := by kernel_rfl
theorem asAny (v : Value) (xT : TypeId) (w : World) : (Instr.typeAssert (.iface 106 v) xT 106 true).run Tryz.prog w = .ok (.tuple #[v, .bool true]) w := by kernel_rfl
theorem asNotAny (t : TypeId) (v : Value) (xT : TypeId) (w : World) (h : t ≠ 106) : (Instr.typeAssert (.iface t v) xT 106 true).run Tryz.prog w = .ok (.tuple #[.agg #[.int .i64 0, .int .i64 0, .int .i64 0], .bool false]) w := by simp [Instr.typeAssert, go_sem, h]
theorem asNilAny (xT : TypeId) (w : World) : (Instr.typeAssert .nilIface xT 106 true).run Tryz.prog w = .ok (.tuple #[.agg #[.int .i64 0, .int .i64 0, .int .i64 0], .bool false]) w := by kernel_rfl
theorem methLoad (n : Nat) (d a : Int) (w : World) : (method (n + 1) 125 (.agg #[.int .i64 d, .int .i64 a]) "loop.example/outwork/impl.ins").run Tryz.prog w = .ok (123, .agg #[.int .i64 d, .int .i64 a]) w := by kernel_rfl
theorem asLoad (v : Value) (xT : TypeId) (w : World) : (Instr.typeAssert (.iface 125 v) xT 125 true).run Tryz.prog w = .ok (.tuple #[v, .bool true]) w := by kernel_rfl
theorem asNotLoad (t : TypeId) (v : Value) (xT : TypeId) (w : World) (h : t ≠ 125) : (Instr.typeAssert (.iface t v) xT 125 true).run Tryz.prog w = .ok (.tuple #[.agg #[.int .i64 0, .int .i64 0], .bool false]) w := by simp [Instr.typeAssert, go_sem, h]
theorem asNilLoad (xT : TypeId) (w : World) : (Instr.typeAssert .nilIface xT 125 true).run Tryz.prog w = .ok (.tuple #[.agg #[.int .i64 0, .int .i64 0], .bool false]) w := by kernel_rfl
theorem methStore (n : Nat) (a b : Int) (w : World) : (method (n + 1) 127 (.agg #[.int .i64 a, .int .i64 b]) "loop.example/outwork/impl.ins").run Tryz.prog w = .ok (124, .agg #[.int .i64 a, .int .i64 b]) w := by kernel_rfl
theorem asStore (v : Value) (xT : TypeId) (w : World) : (Instr.typeAssert (.iface 127 v) xT 127 true).run Tryz.prog w = .ok (.tuple #[v, .bool true]) w := by kernel_rfl
theorem asNotStore (t : TypeId) (v : Value) (xT : TypeId) (w : World) (h : t ≠ 127) : (Instr.typeAssert (.iface t v) xT 127 true).run Tryz.prog w = .ok (.tuple #[.agg #[.int .i64 0, .int .i64 0], .bool false]) w := by simp [Instr.typeAssert, go_sem, h]
theorem asNilStore (xT : TypeId) (w : World) : (Instr.typeAssert .nilIface xT 127 true).run Tryz.prog w = .ok (.tuple #[.agg #[.int .i64 0, .int .i64 0], .bool false]) w := by kernel_rfl
theorem methIf (n : Nat) (rel a b to : Int) (w : World) : (method (n + 1) 108 (.agg #[.int .i64 rel, .int .i64 a, .int .i64 b, .int .i64 to]) "loop.example/outwork/impl.ins").run Tryz.prog w = .ok (118, .agg #[.int .i64 rel, .int .i64 a, .int .i64 b, .int .i64 to]) w := by kernel_rfl
theorem asIf (v : Value) (xT : TypeId) (w : World) : (Instr.typeAssert (.iface 108 v) xT 108 true).run Tryz.prog w = .ok (.tuple #[v, .bool true]) w := by kernel_rfl
theorem asNotIf (t : TypeId) (v : Value) (xT : TypeId) (w : World) (h : t ≠ 108) : (Instr.typeAssert (.iface t v) xT 108 true).run Tryz.prog w = .ok (.tuple #[.agg #[.int .i64 0, .int .i64 0, .int .i64 0, .int .i64 0], .bool false]) w := by simp [Instr.typeAssert, go_sem, h]
theorem asNilIf (xT : TypeId) (w : World) : (Instr.typeAssert .nilIface xT 108 true).run Tryz.prog w = .ok (.tuple #[.agg #[.int .i64 0, .int .i64 0, .int .i64 0, .int .i64 0], .bool false]) w := by kernel_rfl
theorem methJump (n : Nat) (to : Int) (w : World) : (method (n + 1) 111 (.agg #[.int .i64 to]) "loop.example/outwork/impl.ins").run Tryz.prog w = .ok (119, .agg #[.int .i64 to]) w := by kernel_rfl
theorem asJump (v : Value) (xT : TypeId) (w : World) : (Instr.typeAssert (.iface 111 v) xT 111 true).run Tryz.prog w = .ok (.tuple #[v, .bool true]) w := by kernel_rfl
theorem asNotJump (t : TypeId) (v : Value) (xT : TypeId) (w : World) (h : t ≠ 111) : (Instr.typeAssert (.iface t v) xT 111 true).run Tryz.prog w = .ok (.tuple #[.agg #[.int .i64 0], .bool false]) w := by simp [Instr.typeAssert, go_sem, h]
theorem asNilJump (xT : TypeId) (w : World) : (Instr.typeAssert .nilIface xT 111 true).run Tryz.prog w = .ok (.tuple #[.agg #[.int .i64 0], .bool false]) w := by kernel_rfl
theorem methCall (n : Nat) (d a to : Int) (w : World) : (method (n + 1) 113 (.agg #[.int .i64 d, .int .i64 a, .int .i64 to]) "loop.example/outwork/impl.ins").run Tryz.prog w = .ok (120, .agg #[.int .i64 d, .int .i64 a, .int .i64 to]) w := by kernel_rfl
theorem asCall (v : Value) (xT : TypeId) (w : World) : (Instr.typeAssert (.iface 113 v) xT 113 true).run Tryz.prog w = .ok (.tuple #[v, .bool true]) w := by kernel_rfl
theorem asNotCall (t : TypeId) (v : Value) (xT : TypeId) (w : World) (h : t ≠ 113) : (Instr.typeAssert (.iface t v) xT 113 true).run Tryz.prog w = .ok (.tuple #[.agg #[.int .i64 0, .int .i64 0, .int .i64 0], .bool false]) w := by simp [Instr.typeAssert, go_sem, h]
theorem asNilCall (xT : TypeId) (w : World) : (Instr.typeAssert .nilIface xT 113 true).run Tryz.prog w = .ok (.tuple #[.agg #[.int .i64 0, .int .i64 0, .int .i64 0], .bool false]) w := by kernel_rfl
theorem methAssert (n : Nat) (rel a b : Int) (w : World) : (method (n + 1) 115 (.agg #[.int .i64 rel, .int .i64 a, .int .i64 b]) "loop.example/outwork/impl.ins").run Tryz.prog w = .ok (121, .agg #[.int .i64 rel, .int .i64 a, .int .i64 b]) w := by kernel_rfl
theorem asAssert (v : Value) (xT : TypeId) (w : World) : (Instr.typeAssert (.iface 115 v) xT 115 true).run Tryz.prog w = .ok (.tuple #[v, .bool true]) w := by kernel_rfl
theorem asNotAssert (t : TypeId) (v : Value) (xT : TypeId) (w : World) (h : t ≠ 115) : (Instr.typeAssert (.iface t v) xT 115 true).run Tryz.prog w = .ok (.tuple #[.agg #[.int .i64 0, .int .i64 0, .int .i64 0], .bool false]) w := by simp [Instr.typeAssert, go_sem, h]
theorem asNilAssert (xT : TypeId) (w : World) : (Instr.typeAssert .nilIface xT 115 true).run Tryz.prog w = .ok (.tuple #[.agg #[.int .i64 0, .int .i64 0, .int .i64 0], .bool false]) w := by kernel_rfl
theorem methRet (n : Nat) (a : Int) (w : World) : (method (n + 1) 129 (.agg #[.int .i64 a]) "loop.example/outwork/impl.ins").run Tryz.prog w = .ok (125, .agg #[.int .i64 a]) w := by kernel_rfl
theorem asRet (v : Value) (xT : TypeId) (w : World) : (Instr.typeAssert (.iface 129 v) xT 129 true).run Tryz.prog w = .ok (.tuple #[v, .bool true]) w := by kernel_rfl
theorem asNotRet (t : TypeId) (v : Value) (xT : TypeId) (w : World) (h : t ≠ 129) : (Instr.typeAssert (.iface t v) xT 129 true).run Tryz.prog w = .ok (.tuple #[.agg #[.int .i64 0], .bool false]) w := by simp [Instr.typeAssert, go_sem, h]
theorem asNilRet (xT : TypeId) (w : World) : (Instr.typeAssert .nilIface xT 129 true).run Tryz.prog w = .ok (.tuple #[.agg #[.int .i64 0], .bool false]) w := by kernel_rfl
end Go.Proofs.YtmcfengnihomcaaGreat

/- Contract of the program's InsOk. No condition. -/
namespace Go.Proofs.YtmcfengnihomcaaGreat
open Go.RowKit
set_option linter.unusedVariables false
attribute [local go_sem] ext_cell ext_lt ext_le ext_le1
attribute [local go_sem ↓] insNeq insEql
attribute [local go_sem] asAny asNotAny asNilAny asIf asNotIf asNilIf asJump asNotJump asNilJump asCall asNotCall asNilCall asAssert asNotAssert asNilAssert

set_option maxRecDepth 100000 in
set_option maxHeartbeats 4000000 in
theorem implInsOkF (T : TypeId) (pv : Value) (fid : FuncId) (op d a b rel lo hi to procs size : Int) (V : Ins) (w : World)
    (CO : ∀ w, Calls Tryz.prog 68 #[Ins.v ⟨op, d, a, b, rel, lo, hi, to⟩] w fun e w' => e = .returned (.iface T pv) ∧ Grew w w')
    (hm : ∀ (n : Nat) (w : World), (method (n + 1) T pv "loop.example/outwork/impl.ins").run Tryz.prog w = .ok (fid, pv) w)
    (hcf : ∀ (args : Array Value) (w : World), (callFunc fid args).run Tryz.prog w = .ok (.enter fid args) w)
    (CN : ∀ w, Calls Tryz.prog fid #[pv] w fun e w' => e = .returned (.agg #[.int .i64 V.op, .int .i64 V.d, .int .i64 V.a, .int .i64 V.b, .int .i64 V.rel, .int .i64 V.lo, .int .i64 V.hi, .int .i64 V.to]) ∧ Grew w w')
    (hq : insEqB V ⟨op, d, a, b, rel, lo, hi, to⟩ = false) :
    Calls Tryz.prog 53 #[Ins.v ⟨op, d, a, b, rel, lo, hi, to⟩, .int .i64 procs, .int .i64 size] w fun e w' => e = .returned (.bool false) ∧ Grew w w' := by
  have HCO := Lib.hid CO; clear CO
  have HCN := Lib.hid CN; clear CN
  go_enter Tryz.func53, Tryz.ntmps53
  go_wp2_with fail
  (with_reducible refine (HCO.out _).mono ?_)
  rintro e w1 ⟨rfl, g1⟩
  obtain ⟨x, rfl⟩ := ext_of g1
  have HX := Lib.hid g1; clear g1
  go_wp2_with fail
  refine wp_region_ext (by kernel_rfl) (by kernel_rfl) ?_
  repeat (go_big_quiet_step ((first | (with_reducible exact ext_grow (HCN.out _)))))
  refine wpQuiet_nil ?_
  intro _ hw'
  obtain ⟨y, hw''⟩ := hw'
  subst hw''
  have HY := Lib.hid (ext_grew _ y)
  go_wp2
  go_ret
  exact ⟨rfl, (by repeat (first | exact Below.refl _ _ | apply grew_ext | apply grew_al | apply grew_dn | (refine grew_set ?_ (by repeat (first | exact Nat.le_refl _ | apply le_ext | apply le_al | apply le_pl)) _)))⟩

set_option maxRecDepth 100000 in
set_option maxHeartbeats 4000000 in
theorem implInsOkD (T : TypeId) (pv : Value) (fid : FuncId) (op d a b rel lo hi to procs size : Int) (V : Ins) (w : World)
    (CO : ∀ w, Calls Tryz.prog 68 #[Ins.v ⟨op, d, a, b, rel, lo, hi, to⟩] w fun e w' => e = .returned (.iface T pv) ∧ Grew w w')
    (hm : ∀ (n : Nat) (w : World), (method (n + 1) T pv "loop.example/outwork/impl.ins").run Tryz.prog w = .ok (fid, pv) w)
    (hcf : ∀ (args : Array Value) (w : World), (callFunc fid args).run Tryz.prog w = .ok (.enter fid args) w)
    (CN : ∀ w, Calls Tryz.prog fid #[pv] w fun e w' => e = .returned (.agg #[.int .i64 V.op, .int .i64 V.d, .int .i64 V.a, .int .i64 V.b, .int .i64 V.rel, .int .i64 V.lo, .int .i64 V.hi, .int .i64 V.to]) ∧ Grew w w')
    (hq : insEqB V ⟨op, d, a, b, rel, lo, hi, to⟩ = true) (hd : varB d = false):
    Calls Tryz.prog 53 #[Ins.v ⟨op, d, a, b, rel, lo, hi, to⟩, .int .i64 procs, .int .i64 size] w fun e w' => e = .returned (.bool false) ∧ Grew w w' := by
  have HCO := Lib.hid CO; clear CO
  have HCN := Lib.hid CN; clear CN
  have Cd : Hid (∀ w, Calls Tryz.prog 69 #[.int .i64 d] w fun e w' => e = .returned (.bool false) ∧ w = w') := Lib.hid (fun w => bool_is (isVar d w) ((varB4 d).trans hd))
  clear hd
  go_enter Tryz.func53, Tryz.ntmps53
  go_wp2_with fail
  (with_reducible refine (HCO.out _).mono ?_)
  rintro e w1 ⟨rfl, g1⟩
  obtain ⟨x, rfl⟩ := ext_of g1
  have HX := Lib.hid g1; clear g1
  go_wp2_with fail
  refine wp_region_ext (by kernel_rfl) (by kernel_rfl) ?_
  repeat (go_big_quiet_step ((first | (with_reducible exact ext_same (Cd.out _)) | (with_reducible exact ext_grow (HCN.out _)))))
  refine wpQuiet_nil ?_
  intro _ hw'
  obtain ⟨y, hw''⟩ := hw'
  subst hw''
  have HY := Lib.hid (ext_grew _ y)
  go_wp2
  go_ret
  exact ⟨rfl, (by repeat (first | exact Below.refl _ _ | apply grew_ext | apply grew_al | apply grew_dn | (refine grew_set ?_ (by repeat (first | exact Nat.le_refl _ | apply le_ext | apply le_al | apply le_pl)) _)))⟩

set_option maxRecDepth 100000 in
set_option maxHeartbeats 4000000 in
theorem implInsOkA (T : TypeId) (pv : Value) (fid : FuncId) (op d a b rel lo hi to procs size : Int) (V : Ins) (w : World)
    (CO : ∀ w, Calls Tryz.prog 68 #[Ins.v ⟨op, d, a, b, rel, lo, hi, to⟩] w fun e w' => e = .returned (.iface T pv) ∧ Grew w w')
    (hm : ∀ (n : Nat) (w : World), (method (n + 1) T pv "loop.example/outwork/impl.ins").run Tryz.prog w = .ok (fid, pv) w)
    (hcf : ∀ (args : Array Value) (w : World), (callFunc fid args).run Tryz.prog w = .ok (.enter fid args) w)
    (CN : ∀ w, Calls Tryz.prog fid #[pv] w fun e w' => e = .returned (.agg #[.int .i64 V.op, .int .i64 V.d, .int .i64 V.a, .int .i64 V.b, .int .i64 V.rel, .int .i64 V.lo, .int .i64 V.hi, .int .i64 V.to]) ∧ Grew w w')
    (hq : insEqB V ⟨op, d, a, b, rel, lo, hi, to⟩ = true) (hd : varB d = true) (ha : varB a = false):
    Calls Tryz.prog 53 #[Ins.v ⟨op, d, a, b, rel, lo, hi, to⟩, .int .i64 procs, .int .i64 size] w fun e w' => e = .returned (.bool false) ∧ Grew w w' := by
  have HCO := Lib.hid CO; clear CO
  have HCN := Lib.hid CN; clear CN
  have Cd : Hid (∀ w, Calls Tryz.prog 69 #[.int .i64 d] w fun e w' => e = .returned (.bool true) ∧ w = w') := Lib.hid (fun w => bool_is (isVar d w) ((varB4 d).trans hd))
  have Ca : Hid (∀ w, Calls Tryz.prog 69 #[.int .i64 a] w fun e w' => e = .returned (.bool false) ∧ w = w') := Lib.hid (fun w => bool_is (isVar a w) ((varB4 a).trans ha))
  clear hd ha
  go_enter Tryz.func53, Tryz.ntmps53
  go_wp2_with fail
  (with_reducible refine (HCO.out _).mono ?_)
  rintro e w1 ⟨rfl, g1⟩
  obtain ⟨x, rfl⟩ := ext_of g1
  have HX := Lib.hid g1; clear g1
  go_wp2_with fail
  refine wp_region_ext (by kernel_rfl) (by kernel_rfl) ?_
  repeat (go_big_quiet_step ((first | (with_reducible exact ext_same (Cd.out _)) | (with_reducible exact ext_same (Ca.out _)) | (with_reducible exact ext_grow (HCN.out _)))))
  refine wpQuiet_nil ?_
  intro _ hw'
  obtain ⟨y, hw''⟩ := hw'
  subst hw''
  have HY := Lib.hid (ext_grew _ y)
  go_wp2
  go_ret
  exact ⟨rfl, (by repeat (first | exact Below.refl _ _ | apply grew_ext | apply grew_al | apply grew_dn | (refine grew_set ?_ (by repeat (first | exact Nat.le_refl _ | apply le_ext | apply le_al | apply le_pl)) _)))⟩

set_option maxRecDepth 100000 in
set_option maxHeartbeats 4000000 in
theorem implInsOkB (T : TypeId) (pv : Value) (fid : FuncId) (op d a b rel lo hi to procs size : Int) (V : Ins) (w : World)
    (CO : ∀ w, Calls Tryz.prog 68 #[Ins.v ⟨op, d, a, b, rel, lo, hi, to⟩] w fun e w' => e = .returned (.iface T pv) ∧ Grew w w')
    (hm : ∀ (n : Nat) (w : World), (method (n + 1) T pv "loop.example/outwork/impl.ins").run Tryz.prog w = .ok (fid, pv) w)
    (hcf : ∀ (args : Array Value) (w : World), (callFunc fid args).run Tryz.prog w = .ok (.enter fid args) w)
    (CN : ∀ w, Calls Tryz.prog fid #[pv] w fun e w' => e = .returned (.agg #[.int .i64 V.op, .int .i64 V.d, .int .i64 V.a, .int .i64 V.b, .int .i64 V.rel, .int .i64 V.lo, .int .i64 V.hi, .int .i64 V.to]) ∧ Grew w w')
    (hq : insEqB V ⟨op, d, a, b, rel, lo, hi, to⟩ = true) (hd : varB d = true) (ha : varB a = true) (hb : varB b = false):
    Calls Tryz.prog 53 #[Ins.v ⟨op, d, a, b, rel, lo, hi, to⟩, .int .i64 procs, .int .i64 size] w fun e w' => e = .returned (.bool false) ∧ Grew w w' := by
  have HCO := Lib.hid CO; clear CO
  have HCN := Lib.hid CN; clear CN
  have Cd : Hid (∀ w, Calls Tryz.prog 69 #[.int .i64 d] w fun e w' => e = .returned (.bool true) ∧ w = w') := Lib.hid (fun w => bool_is (isVar d w) ((varB4 d).trans hd))
  have Ca : Hid (∀ w, Calls Tryz.prog 69 #[.int .i64 a] w fun e w' => e = .returned (.bool true) ∧ w = w') := Lib.hid (fun w => bool_is (isVar a w) ((varB4 a).trans ha))
  have Cb : Hid (∀ w, Calls Tryz.prog 69 #[.int .i64 b] w fun e w' => e = .returned (.bool false) ∧ w = w') := Lib.hid (fun w => bool_is (isVar b w) ((varB4 b).trans hb))
  clear hd ha hb
  go_enter Tryz.func53, Tryz.ntmps53
  go_wp2_with fail
  (with_reducible refine (HCO.out _).mono ?_)
  rintro e w1 ⟨rfl, g1⟩
  obtain ⟨x, rfl⟩ := ext_of g1
  have HX := Lib.hid g1; clear g1
  go_wp2_with fail
  refine wp_region_ext (by kernel_rfl) (by kernel_rfl) ?_
  repeat (go_big_quiet_step ((first | (with_reducible exact ext_same (Cd.out _)) | (with_reducible exact ext_same (Ca.out _)) | (with_reducible exact ext_same (Cb.out _)) | (with_reducible exact ext_grow (HCN.out _)))))
  refine wpQuiet_nil ?_
  intro _ hw'
  obtain ⟨y, hw''⟩ := hw'
  subst hw''
  have HY := Lib.hid (ext_grew _ y)
  go_wp2
  go_ret
  exact ⟨rfl, (by repeat (first | exact Below.refl _ _ | apply grew_ext | apply grew_al | apply grew_dn | (refine grew_set ?_ (by repeat (first | exact Nat.le_refl _ | apply le_ext | apply le_al | apply le_pl)) _)))⟩

set_option maxRecDepth 100000 in
set_option maxHeartbeats 4000000 in
theorem implInsOkN (op d a b rel lo hi to procs size : Int) (w : World) (hn : codeV ⟨op, d, a, b, rel, lo, hi, to⟩ = .nilIface) :
    Calls Tryz.prog 53 #[Ins.v ⟨op, d, a, b, rel, lo, hi, to⟩, .int .i64 procs, .int .i64 size] w fun e w' => e = .returned (.bool false) ∧ Grew w w' := by
  have CO : Hid (∀ w, Calls Tryz.prog 68 #[Ins.v ⟨op, d, a, b, rel, lo, hi, to⟩] w fun e w' => e = .returned .nilIface ∧ Grew w w') := Lib.hid (fun w => by have := codeOf ⟨op, d, a, b, rel, lo, hi, to⟩ w; rw [hn] at this; exact this)
  clear hn
  go_enter Tryz.func53, Tryz.ntmps53
  go_wp2_with fail
  (with_reducible refine (CO.out _).mono ?_)
  rintro e w1 ⟨rfl, g1⟩
  obtain ⟨x, rfl⟩ := ext_of g1
  have HX := Lib.hid g1; clear g1
  go_wp2_with fail
  refine wp_region_ext (by kernel_rfl) (by kernel_rfl) ?_
  repeat (go_big_quiet_step ((first | fail)))
  refine wpQuiet_nil ?_
  intro _ hw'
  obtain ⟨y, hw''⟩ := hw'
  subst hw''
  have HY := Lib.hid (ext_grew _ y)
  go_wp2
  go_ret
  exact ⟨rfl, (by repeat (first | exact Below.refl _ _ | apply grew_ext | apply grew_al | apply grew_dn | (refine grew_set ?_ (by repeat (first | exact Nat.le_refl _ | apply le_ext | apply le_al | apply le_pl)) _)))⟩

set_option maxRecDepth 100000 in
set_option maxHeartbeats 4000000 in
theorem implInsOkTArith (op d a b rel lo hi to procs size : Int) (w : World) (ho : op = 1 ∨ op = 2 ∨ op = 3 ∨ op = 4)
    (hq : insEqB ⟨op, d, a, b, 0, 0, 0, 0⟩ ⟨op, d, a, b, rel, lo, hi, to⟩ = true) (hd : varB d = true) (ha : varB a = true) (hb : varB b = true) :
    Calls Tryz.prog 53 #[Ins.v ⟨op, d, a, b, rel, lo, hi, to⟩, .int .i64 procs, .int .i64 size] w fun e w' => e = .returned (.bool (tailB ⟨op, d, a, b, rel, lo, hi, to⟩ procs size)) ∧ Grew w w' := by
  have HCO : Hid (∀ w, Calls Tryz.prog 68 #[Ins.v ⟨op, d, a, b, rel, lo, hi, to⟩] w fun e w' => e = .returned (.iface 123 (.agg #[.int .i64 op, .int .i64 d, .int .i64 a, .int .i64 b])) ∧ Grew w w') := Lib.hid (fun w => by
    have := codeOf ⟨op, d, a, b, rel, lo, hi, to⟩ w
    rw [show codeV ⟨op, d, a, b, rel, lo, hi, to⟩ = .iface 123 (.agg #[.int .i64 op, .int .i64 d, .int .i64 a, .int .i64 b]) from by simp [codeV, ho]] at this
    exact this)
  have HCN : Hid (∀ w, Calls Tryz.prog 122 #[.agg #[.int .i64 op, .int .i64 d, .int .i64 a, .int .i64 b]] w fun e w' => e = .returned (.agg #[.int .i64 op, .int .i64 d, .int .i64 a, .int .i64 b, .int .i64 0, .int .i64 0, .int .i64 0, .int .i64 0]) ∧ Grew w w') := Lib.hid (fun w => insArith op d a b w)
  have hm := fun n w => methArith n op d a b w
  have Cd : Hid (∀ w, Calls Tryz.prog 69 #[.int .i64 d] w fun e w' => e = .returned (.bool true) ∧ w = w') := Lib.hid (fun w => bool_is (isVar d w) ((varB4 d).trans hd))
  have Ca : Hid (∀ w, Calls Tryz.prog 69 #[.int .i64 a] w fun e w' => e = .returned (.bool true) ∧ w = w') := Lib.hid (fun w => bool_is (isVar a w) ((varB4 a).trans ha))
  have Cb : Hid (∀ w, Calls Tryz.prog 69 #[.int .i64 b] w fun e w' => e = .returned (.bool true) ∧ w = w') := Lib.hid (fun w => bool_is (isVar b w) ((varB4 b).trans hb))
  clear hd ha hb
  have HT : Hid (tailB ⟨op, d, a, b, rel, lo, hi, to⟩ procs size = true) := Lib.hid (by have h1 : op ≠ 5 ∧ op ≠ 8 ∧ op ≠ 9 ∧ op ≠ 10 ∧ op ≠ 11 := (by omega); simp [tailB, h1])
  clear ho
  go_enter Tryz.func53, Tryz.ntmps53
  go_wp2_with fail
  (with_reducible refine (HCO.out _).mono ?_)
  rintro e w1 ⟨rfl, g1⟩
  obtain ⟨x, rfl⟩ := ext_of g1
  have HX := Lib.hid g1; clear g1 hm
  have hm := fun n w => methArith n op d a b w
  go_wp2_with fail
  refine wp_region_ext (by kernel_rfl) (by kernel_rfl) ?_
  repeat (go_big_quiet_step ((first | (with_reducible exact ext_same (Cd.out _)) | (with_reducible exact ext_same (Ca.out _)) | (with_reducible exact ext_same (Cb.out _)) | (with_reducible exact ext_grow (HCN.out _)))))
  refine wpQuiet_nil ?_
  intro _ hw'
  obtain ⟨y, hw''⟩ := hw'
  subst hw''
  have HY := Lib.hid (ext_grew _ y)
  go_wp2_with (first | fail | fail)
  all_goals
    go_ret
    exact ⟨by rw [HT.out]; rfl, (by repeat (first | exact Below.refl _ _ | apply grew_ext | apply grew_al | apply grew_dn | (refine grew_set ?_ (by repeat (first | exact Nat.le_refl _ | apply le_ext | apply le_al | apply le_pl)) _)))⟩

set_option maxRecDepth 100000 in
set_option maxHeartbeats 4000000 in
theorem implInsOkTAny (d a b rel lo hi to procs size : Int) (w : World) 
    (hq : insEqB ⟨(5 : Int), d, 0, 0, 0, lo, hi, 0⟩ ⟨(5 : Int), d, a, b, rel, lo, hi, to⟩ = true) (hd : varB d = true) (ha : varB a = true) (hb : varB b = true) :
    Calls Tryz.prog 53 #[Ins.v ⟨(5 : Int), d, a, b, rel, lo, hi, to⟩, .int .i64 procs, .int .i64 size] w fun e w' => e = .returned (.bool (tailB ⟨(5 : Int), d, a, b, rel, lo, hi, to⟩ procs size)) ∧ Grew w w' := by
  have HCO : Hid (∀ w, Calls Tryz.prog 68 #[Ins.v ⟨(5 : Int), d, a, b, rel, lo, hi, to⟩] w fun e w' => e = .returned (.iface 106 (.agg #[.int .i64 d, .int .i64 lo, .int .i64 hi])) ∧ Grew w w') := Lib.hid (fun w => by
    have := codeOf ⟨(5 : Int), d, a, b, rel, lo, hi, to⟩ w
    rw [show codeV ⟨(5 : Int), d, a, b, rel, lo, hi, to⟩ = .iface 106 (.agg #[.int .i64 d, .int .i64 lo, .int .i64 hi]) from rfl] at this
    exact this)
  have HCN : Hid (∀ w, Calls Tryz.prog 117 #[.agg #[.int .i64 d, .int .i64 lo, .int .i64 hi]] w fun e w' => e = .returned (.agg #[.int .i64 (5 : Int), .int .i64 d, .int .i64 0, .int .i64 0, .int .i64 0, .int .i64 lo, .int .i64 hi, .int .i64 0]) ∧ Grew w w') := Lib.hid (fun w => insAny d lo hi w)
  have hm := fun n w => methAny n d lo hi w
  have Cd : Hid (∀ w, Calls Tryz.prog 69 #[.int .i64 d] w fun e w' => e = .returned (.bool true) ∧ w = w') := Lib.hid (fun w => bool_is (isVar d w) ((varB4 d).trans hd))
  have Ca : Hid (∀ w, Calls Tryz.prog 69 #[.int .i64 a] w fun e w' => e = .returned (.bool true) ∧ w = w') := Lib.hid (fun w => bool_is (isVar a w) ((varB4 a).trans ha))
  have Cb : Hid (∀ w, Calls Tryz.prog 69 #[.int .i64 b] w fun e w' => e = .returned (.bool true) ∧ w = w') := Lib.hid (fun w => bool_is (isVar b w) ((varB4 b).trans hb))
  clear hd ha hb
  go_enter Tryz.func53, Tryz.ntmps53
  go_wp2_with fail
  (with_reducible refine (HCO.out _).mono ?_)
  rintro e w1 ⟨rfl, g1⟩
  obtain ⟨x, rfl⟩ := ext_of g1
  have HX := Lib.hid g1; clear g1 hm
  have hm := fun n w => methAny n d lo hi w
  go_wp2_with fail
  refine wp_region_ext (by kernel_rfl) (by kernel_rfl) ?_
  repeat (go_big_quiet_step ((first | (with_reducible exact ext_same (Cd.out _)) | (with_reducible exact ext_same (Ca.out _)) | (with_reducible exact ext_same (Cb.out _)) | (with_reducible exact ext_grow (HCN.out _)))))
  refine wpQuiet_nil ?_
  intro _ hw'
  obtain ⟨y, hw''⟩ := hw'
  subst hw''
  have HY := Lib.hid (ext_grew _ y)
  go_wp2_with (first | fail | ((with_reducible refine (itvOk lo hi _).mono ?_); rintro e w2 ⟨rfl, g2⟩; obtain ⟨z, rfl⟩ := ext_of g2; clear g2))
  all_goals
    go_ret
    exact ⟨by simp [tailB], (by repeat (first | exact Below.refl _ _ | apply grew_ext | apply grew_al | apply grew_dn | (refine grew_set ?_ (by repeat (first | exact Nat.le_refl _ | apply le_ext | apply le_al | apply le_pl)) _)))⟩

set_option maxRecDepth 100000 in
set_option maxHeartbeats 4000000 in
theorem implInsOkTLoad (d a b rel lo hi to procs size : Int) (w : World) 
    (hq : insEqB ⟨(6 : Int), d, a, 0, 0, 0, 0, 0⟩ ⟨(6 : Int), d, a, b, rel, lo, hi, to⟩ = true) (hd : varB d = true) (ha : varB a = true) (hb : varB b = true) :
    Calls Tryz.prog 53 #[Ins.v ⟨(6 : Int), d, a, b, rel, lo, hi, to⟩, .int .i64 procs, .int .i64 size] w fun e w' => e = .returned (.bool (tailB ⟨(6 : Int), d, a, b, rel, lo, hi, to⟩ procs size)) ∧ Grew w w' := by
  have HCO : Hid (∀ w, Calls Tryz.prog 68 #[Ins.v ⟨(6 : Int), d, a, b, rel, lo, hi, to⟩] w fun e w' => e = .returned (.iface 125 (.agg #[.int .i64 d, .int .i64 a])) ∧ Grew w w') := Lib.hid (fun w => by
    have := codeOf ⟨(6 : Int), d, a, b, rel, lo, hi, to⟩ w
    rw [show codeV ⟨(6 : Int), d, a, b, rel, lo, hi, to⟩ = .iface 125 (.agg #[.int .i64 d, .int .i64 a]) from rfl] at this
    exact this)
  have HCN : Hid (∀ w, Calls Tryz.prog 123 #[.agg #[.int .i64 d, .int .i64 a]] w fun e w' => e = .returned (.agg #[.int .i64 (6 : Int), .int .i64 d, .int .i64 a, .int .i64 0, .int .i64 0, .int .i64 0, .int .i64 0, .int .i64 0]) ∧ Grew w w') := Lib.hid (fun w => insLoad d a w)
  have hm := fun n w => methLoad n d a w
  have Cd : Hid (∀ w, Calls Tryz.prog 69 #[.int .i64 d] w fun e w' => e = .returned (.bool true) ∧ w = w') := Lib.hid (fun w => bool_is (isVar d w) ((varB4 d).trans hd))
  have Ca : Hid (∀ w, Calls Tryz.prog 69 #[.int .i64 a] w fun e w' => e = .returned (.bool true) ∧ w = w') := Lib.hid (fun w => bool_is (isVar a w) ((varB4 a).trans ha))
  have Cb : Hid (∀ w, Calls Tryz.prog 69 #[.int .i64 b] w fun e w' => e = .returned (.bool true) ∧ w = w') := Lib.hid (fun w => bool_is (isVar b w) ((varB4 b).trans hb))
  clear hd ha hb
  go_enter Tryz.func53, Tryz.ntmps53
  go_wp2_with fail
  (with_reducible refine (HCO.out _).mono ?_)
  rintro e w1 ⟨rfl, g1⟩
  obtain ⟨x, rfl⟩ := ext_of g1
  have HX := Lib.hid g1; clear g1 hm
  have hm := fun n w => methLoad n d a w
  go_wp2_with fail
  refine wp_region_ext (by kernel_rfl) (by kernel_rfl) ?_
  repeat (go_big_quiet_step ((first | (with_reducible exact ext_same (Cd.out _)) | (with_reducible exact ext_same (Ca.out _)) | (with_reducible exact ext_same (Cb.out _)) | (with_reducible exact ext_grow (HCN.out _)))))
  refine wpQuiet_nil ?_
  intro _ hw'
  obtain ⟨y, hw''⟩ := hw'
  subst hw''
  have HY := Lib.hid (ext_grew _ y)
  go_wp2_with (first | fail | fail)
  all_goals
    go_ret
    exact ⟨rfl, (by repeat (first | exact Below.refl _ _ | apply grew_ext | apply grew_al | apply grew_dn | (refine grew_set ?_ (by repeat (first | exact Nat.le_refl _ | apply le_ext | apply le_al | apply le_pl)) _)))⟩

set_option maxRecDepth 100000 in
set_option maxHeartbeats 4000000 in
theorem implInsOkTStore (d a b rel lo hi to procs size : Int) (w : World) 
    (hq : insEqB ⟨(7 : Int), 0, a, b, 0, 0, 0, 0⟩ ⟨(7 : Int), d, a, b, rel, lo, hi, to⟩ = true) (hd : varB d = true) (ha : varB a = true) (hb : varB b = true) :
    Calls Tryz.prog 53 #[Ins.v ⟨(7 : Int), d, a, b, rel, lo, hi, to⟩, .int .i64 procs, .int .i64 size] w fun e w' => e = .returned (.bool (tailB ⟨(7 : Int), d, a, b, rel, lo, hi, to⟩ procs size)) ∧ Grew w w' := by
  have HCO : Hid (∀ w, Calls Tryz.prog 68 #[Ins.v ⟨(7 : Int), d, a, b, rel, lo, hi, to⟩] w fun e w' => e = .returned (.iface 127 (.agg #[.int .i64 a, .int .i64 b])) ∧ Grew w w') := Lib.hid (fun w => by
    have := codeOf ⟨(7 : Int), d, a, b, rel, lo, hi, to⟩ w
    rw [show codeV ⟨(7 : Int), d, a, b, rel, lo, hi, to⟩ = .iface 127 (.agg #[.int .i64 a, .int .i64 b]) from rfl] at this
    exact this)
  have HCN : Hid (∀ w, Calls Tryz.prog 124 #[.agg #[.int .i64 a, .int .i64 b]] w fun e w' => e = .returned (.agg #[.int .i64 (7 : Int), .int .i64 0, .int .i64 a, .int .i64 b, .int .i64 0, .int .i64 0, .int .i64 0, .int .i64 0]) ∧ Grew w w') := Lib.hid (fun w => insStore a b w)
  have hm := fun n w => methStore n a b w
  have Cd : Hid (∀ w, Calls Tryz.prog 69 #[.int .i64 d] w fun e w' => e = .returned (.bool true) ∧ w = w') := Lib.hid (fun w => bool_is (isVar d w) ((varB4 d).trans hd))
  have Ca : Hid (∀ w, Calls Tryz.prog 69 #[.int .i64 a] w fun e w' => e = .returned (.bool true) ∧ w = w') := Lib.hid (fun w => bool_is (isVar a w) ((varB4 a).trans ha))
  have Cb : Hid (∀ w, Calls Tryz.prog 69 #[.int .i64 b] w fun e w' => e = .returned (.bool true) ∧ w = w') := Lib.hid (fun w => bool_is (isVar b w) ((varB4 b).trans hb))
  clear hd ha hb
  go_enter Tryz.func53, Tryz.ntmps53
  go_wp2_with fail
  (with_reducible refine (HCO.out _).mono ?_)
  rintro e w1 ⟨rfl, g1⟩
  obtain ⟨x, rfl⟩ := ext_of g1
  have HX := Lib.hid g1; clear g1 hm
  have hm := fun n w => methStore n a b w
  go_wp2_with fail
  refine wp_region_ext (by kernel_rfl) (by kernel_rfl) ?_
  repeat (go_big_quiet_step ((first | (with_reducible exact ext_same (Cd.out _)) | (with_reducible exact ext_same (Ca.out _)) | (with_reducible exact ext_same (Cb.out _)) | (with_reducible exact ext_grow (HCN.out _)))))
  refine wpQuiet_nil ?_
  intro _ hw'
  obtain ⟨y, hw''⟩ := hw'
  subst hw''
  have HY := Lib.hid (ext_grew _ y)
  go_wp2_with (first | fail | fail)
  all_goals
    go_ret
    exact ⟨rfl, (by repeat (first | exact Below.refl _ _ | apply grew_ext | apply grew_al | apply grew_dn | (refine grew_set ?_ (by repeat (first | exact Nat.le_refl _ | apply le_ext | apply le_al | apply le_pl)) _)))⟩

set_option maxRecDepth 100000 in
set_option maxHeartbeats 4000000 in
theorem implInsOkTIf (d a b rel lo hi to procs size : Int) (w : World) 
    (hq : insEqB ⟨(8 : Int), 0, a, b, rel, 0, 0, to⟩ ⟨(8 : Int), d, a, b, rel, lo, hi, to⟩ = true) (hd : varB d = true) (ha : varB a = true) (hb : varB b = true) :
    Calls Tryz.prog 53 #[Ins.v ⟨(8 : Int), d, a, b, rel, lo, hi, to⟩, .int .i64 procs, .int .i64 size] w fun e w' => e = .returned (.bool (tailB ⟨(8 : Int), d, a, b, rel, lo, hi, to⟩ procs size)) ∧ Grew w w' := by
  have HCO : Hid (∀ w, Calls Tryz.prog 68 #[Ins.v ⟨(8 : Int), d, a, b, rel, lo, hi, to⟩] w fun e w' => e = .returned (.iface 108 (.agg #[.int .i64 rel, .int .i64 a, .int .i64 b, .int .i64 to])) ∧ Grew w w') := Lib.hid (fun w => by
    have := codeOf ⟨(8 : Int), d, a, b, rel, lo, hi, to⟩ w
    rw [show codeV ⟨(8 : Int), d, a, b, rel, lo, hi, to⟩ = .iface 108 (.agg #[.int .i64 rel, .int .i64 a, .int .i64 b, .int .i64 to]) from rfl] at this
    exact this)
  have HCN : Hid (∀ w, Calls Tryz.prog 118 #[.agg #[.int .i64 rel, .int .i64 a, .int .i64 b, .int .i64 to]] w fun e w' => e = .returned (.agg #[.int .i64 (8 : Int), .int .i64 0, .int .i64 a, .int .i64 b, .int .i64 rel, .int .i64 0, .int .i64 0, .int .i64 to]) ∧ Grew w w') := Lib.hid (fun w => insIf rel a b to w)
  have hm := fun n w => methIf n rel a b to w
  have Cd : Hid (∀ w, Calls Tryz.prog 69 #[.int .i64 d] w fun e w' => e = .returned (.bool true) ∧ w = w') := Lib.hid (fun w => bool_is (isVar d w) ((varB4 d).trans hd))
  have Ca : Hid (∀ w, Calls Tryz.prog 69 #[.int .i64 a] w fun e w' => e = .returned (.bool true) ∧ w = w') := Lib.hid (fun w => bool_is (isVar a w) ((varB4 a).trans ha))
  have Cb : Hid (∀ w, Calls Tryz.prog 69 #[.int .i64 b] w fun e w' => e = .returned (.bool true) ∧ w = w') := Lib.hid (fun w => bool_is (isVar b w) ((varB4 b).trans hb))
  clear hd ha hb
  go_enter Tryz.func53, Tryz.ntmps53
  go_wp2_with fail
  (with_reducible refine (HCO.out _).mono ?_)
  rintro e w1 ⟨rfl, g1⟩
  obtain ⟨x, rfl⟩ := ext_of g1
  have HX := Lib.hid g1; clear g1 hm
  have hm := fun n w => methIf n rel a b to w
  go_wp2_with fail
  refine wp_region_ext (by kernel_rfl) (by kernel_rfl) ?_
  repeat (go_big_quiet_step ((first | (with_reducible exact ext_same (Cd.out _)) | (with_reducible exact ext_same (Ca.out _)) | (with_reducible exact ext_same (Cb.out _)) | (with_reducible exact ext_grow (HCN.out _)))))
  refine wpQuiet_nil ?_
  intro _ hw'
  obtain ⟨y, hw''⟩ := hw'
  subst hw''
  have HY := Lib.hid (ext_grew _ y)
  go_wp2_with (first | fail | ((with_reducible refine (isRel rel _).mono ?_); rintro e w2 ⟨rfl, rfl⟩) | ((with_reducible refine (below to size _).mono ?_); rintro e w2 ⟨rfl, rfl⟩))
  all_goals
    go_ret
    exact ⟨by simp [tailB, *], (by repeat (first | exact Below.refl _ _ | apply grew_ext | apply grew_al | apply grew_dn | (refine grew_set ?_ (by repeat (first | exact Nat.le_refl _ | apply le_ext | apply le_al | apply le_pl)) _)))⟩

set_option maxRecDepth 100000 in
set_option maxHeartbeats 4000000 in
theorem implInsOkTJump (d a b rel lo hi to procs size : Int) (w : World) 
    (hq : insEqB ⟨(9 : Int), 0, 0, 0, 0, 0, 0, to⟩ ⟨(9 : Int), d, a, b, rel, lo, hi, to⟩ = true) (hd : varB d = true) (ha : varB a = true) (hb : varB b = true) :
    Calls Tryz.prog 53 #[Ins.v ⟨(9 : Int), d, a, b, rel, lo, hi, to⟩, .int .i64 procs, .int .i64 size] w fun e w' => e = .returned (.bool (tailB ⟨(9 : Int), d, a, b, rel, lo, hi, to⟩ procs size)) ∧ Grew w w' := by
  have HCO : Hid (∀ w, Calls Tryz.prog 68 #[Ins.v ⟨(9 : Int), d, a, b, rel, lo, hi, to⟩] w fun e w' => e = .returned (.iface 111 (.agg #[.int .i64 to])) ∧ Grew w w') := Lib.hid (fun w => by
    have := codeOf ⟨(9 : Int), d, a, b, rel, lo, hi, to⟩ w
    rw [show codeV ⟨(9 : Int), d, a, b, rel, lo, hi, to⟩ = .iface 111 (.agg #[.int .i64 to]) from rfl] at this
    exact this)
  have HCN : Hid (∀ w, Calls Tryz.prog 119 #[.agg #[.int .i64 to]] w fun e w' => e = .returned (.agg #[.int .i64 (9 : Int), .int .i64 0, .int .i64 0, .int .i64 0, .int .i64 0, .int .i64 0, .int .i64 0, .int .i64 to]) ∧ Grew w w') := Lib.hid (fun w => insJump to w)
  have hm := fun n w => methJump n to w
  have Cd : Hid (∀ w, Calls Tryz.prog 69 #[.int .i64 d] w fun e w' => e = .returned (.bool true) ∧ w = w') := Lib.hid (fun w => bool_is (isVar d w) ((varB4 d).trans hd))
  have Ca : Hid (∀ w, Calls Tryz.prog 69 #[.int .i64 a] w fun e w' => e = .returned (.bool true) ∧ w = w') := Lib.hid (fun w => bool_is (isVar a w) ((varB4 a).trans ha))
  have Cb : Hid (∀ w, Calls Tryz.prog 69 #[.int .i64 b] w fun e w' => e = .returned (.bool true) ∧ w = w') := Lib.hid (fun w => bool_is (isVar b w) ((varB4 b).trans hb))
  clear hd ha hb
  go_enter Tryz.func53, Tryz.ntmps53
  go_wp2_with fail
  (with_reducible refine (HCO.out _).mono ?_)
  rintro e w1 ⟨rfl, g1⟩
  obtain ⟨x, rfl⟩ := ext_of g1
  have HX := Lib.hid g1; clear g1 hm
  have hm := fun n w => methJump n to w
  go_wp2_with fail
  refine wp_region_ext (by kernel_rfl) (by kernel_rfl) ?_
  repeat (go_big_quiet_step ((first | (with_reducible exact ext_same (Cd.out _)) | (with_reducible exact ext_same (Ca.out _)) | (with_reducible exact ext_same (Cb.out _)) | (with_reducible exact ext_grow (HCN.out _)))))
  refine wpQuiet_nil ?_
  intro _ hw'
  obtain ⟨y, hw''⟩ := hw'
  subst hw''
  have HY := Lib.hid (ext_grew _ y)
  go_wp2_with (first | fail | ((with_reducible refine (below to size _).mono ?_); rintro e w2 ⟨rfl, rfl⟩))
  all_goals
    go_ret
    exact ⟨by simp [tailB, *], (by repeat (first | exact Below.refl _ _ | apply grew_ext | apply grew_al | apply grew_dn | (refine grew_set ?_ (by repeat (first | exact Nat.le_refl _ | apply le_ext | apply le_al | apply le_pl)) _)))⟩

set_option maxRecDepth 100000 in
set_option maxHeartbeats 4000000 in
theorem implInsOkTCall (d a b rel lo hi to procs size : Int) (w : World) 
    (hq : insEqB ⟨(10 : Int), d, a, 0, 0, 0, 0, to⟩ ⟨(10 : Int), d, a, b, rel, lo, hi, to⟩ = true) (hd : varB d = true) (ha : varB a = true) (hb : varB b = true) :
    Calls Tryz.prog 53 #[Ins.v ⟨(10 : Int), d, a, b, rel, lo, hi, to⟩, .int .i64 procs, .int .i64 size] w fun e w' => e = .returned (.bool (tailB ⟨(10 : Int), d, a, b, rel, lo, hi, to⟩ procs size)) ∧ Grew w w' := by
  have HCO : Hid (∀ w, Calls Tryz.prog 68 #[Ins.v ⟨(10 : Int), d, a, b, rel, lo, hi, to⟩] w fun e w' => e = .returned (.iface 113 (.agg #[.int .i64 d, .int .i64 a, .int .i64 to])) ∧ Grew w w') := Lib.hid (fun w => by
    have := codeOf ⟨(10 : Int), d, a, b, rel, lo, hi, to⟩ w
    rw [show codeV ⟨(10 : Int), d, a, b, rel, lo, hi, to⟩ = .iface 113 (.agg #[.int .i64 d, .int .i64 a, .int .i64 to]) from rfl] at this
    exact this)
  have HCN : Hid (∀ w, Calls Tryz.prog 120 #[.agg #[.int .i64 d, .int .i64 a, .int .i64 to]] w fun e w' => e = .returned (.agg #[.int .i64 (10 : Int), .int .i64 d, .int .i64 a, .int .i64 0, .int .i64 0, .int .i64 0, .int .i64 0, .int .i64 to]) ∧ Grew w w') := Lib.hid (fun w => insCall d a to w)
  have hm := fun n w => methCall n d a to w
  have Cd : Hid (∀ w, Calls Tryz.prog 69 #[.int .i64 d] w fun e w' => e = .returned (.bool true) ∧ w = w') := Lib.hid (fun w => bool_is (isVar d w) ((varB4 d).trans hd))
  have Ca : Hid (∀ w, Calls Tryz.prog 69 #[.int .i64 a] w fun e w' => e = .returned (.bool true) ∧ w = w') := Lib.hid (fun w => bool_is (isVar a w) ((varB4 a).trans ha))
  have Cb : Hid (∀ w, Calls Tryz.prog 69 #[.int .i64 b] w fun e w' => e = .returned (.bool true) ∧ w = w') := Lib.hid (fun w => bool_is (isVar b w) ((varB4 b).trans hb))
  clear hd ha hb
  go_enter Tryz.func53, Tryz.ntmps53
  go_wp2_with fail
  (with_reducible refine (HCO.out _).mono ?_)
  rintro e w1 ⟨rfl, g1⟩
  obtain ⟨x, rfl⟩ := ext_of g1
  have HX := Lib.hid g1; clear g1 hm
  have hm := fun n w => methCall n d a to w
  go_wp2_with fail
  refine wp_region_ext (by kernel_rfl) (by kernel_rfl) ?_
  repeat (go_big_quiet_step ((first | (with_reducible exact ext_same (Cd.out _)) | (with_reducible exact ext_same (Ca.out _)) | (with_reducible exact ext_same (Cb.out _)) | (with_reducible exact ext_grow (HCN.out _)))))
  refine wpQuiet_nil ?_
  intro _ hw'
  obtain ⟨y, hw''⟩ := hw'
  subst hw''
  have HY := Lib.hid (ext_grew _ y)
  go_wp2_with (first | fail | ((with_reducible refine (below to procs _).mono ?_); rintro e w2 ⟨rfl, rfl⟩))
  all_goals
    go_ret
    exact ⟨by simp [tailB, *], (by repeat (first | exact Below.refl _ _ | apply grew_ext | apply grew_al | apply grew_dn | (refine grew_set ?_ (by repeat (first | exact Nat.le_refl _ | apply le_ext | apply le_al | apply le_pl)) _)))⟩

set_option maxRecDepth 100000 in
set_option maxHeartbeats 4000000 in
theorem implInsOkTAssert (d a b rel lo hi to procs size : Int) (w : World) 
    (hq : insEqB ⟨(11 : Int), 0, a, b, rel, 0, 0, 0⟩ ⟨(11 : Int), d, a, b, rel, lo, hi, to⟩ = true) (hd : varB d = true) (ha : varB a = true) (hb : varB b = true) :
    Calls Tryz.prog 53 #[Ins.v ⟨(11 : Int), d, a, b, rel, lo, hi, to⟩, .int .i64 procs, .int .i64 size] w fun e w' => e = .returned (.bool (tailB ⟨(11 : Int), d, a, b, rel, lo, hi, to⟩ procs size)) ∧ Grew w w' := by
  have HCO : Hid (∀ w, Calls Tryz.prog 68 #[Ins.v ⟨(11 : Int), d, a, b, rel, lo, hi, to⟩] w fun e w' => e = .returned (.iface 115 (.agg #[.int .i64 rel, .int .i64 a, .int .i64 b])) ∧ Grew w w') := Lib.hid (fun w => by
    have := codeOf ⟨(11 : Int), d, a, b, rel, lo, hi, to⟩ w
    rw [show codeV ⟨(11 : Int), d, a, b, rel, lo, hi, to⟩ = .iface 115 (.agg #[.int .i64 rel, .int .i64 a, .int .i64 b]) from rfl] at this
    exact this)
  have HCN : Hid (∀ w, Calls Tryz.prog 121 #[.agg #[.int .i64 rel, .int .i64 a, .int .i64 b]] w fun e w' => e = .returned (.agg #[.int .i64 (11 : Int), .int .i64 0, .int .i64 a, .int .i64 b, .int .i64 rel, .int .i64 0, .int .i64 0, .int .i64 0]) ∧ Grew w w') := Lib.hid (fun w => insAssert rel a b w)
  have hm := fun n w => methAssert n rel a b w
  have Cd : Hid (∀ w, Calls Tryz.prog 69 #[.int .i64 d] w fun e w' => e = .returned (.bool true) ∧ w = w') := Lib.hid (fun w => bool_is (isVar d w) ((varB4 d).trans hd))
  have Ca : Hid (∀ w, Calls Tryz.prog 69 #[.int .i64 a] w fun e w' => e = .returned (.bool true) ∧ w = w') := Lib.hid (fun w => bool_is (isVar a w) ((varB4 a).trans ha))
  have Cb : Hid (∀ w, Calls Tryz.prog 69 #[.int .i64 b] w fun e w' => e = .returned (.bool true) ∧ w = w') := Lib.hid (fun w => bool_is (isVar b w) ((varB4 b).trans hb))
  clear hd ha hb
  go_enter Tryz.func53, Tryz.ntmps53
  go_wp2_with fail
  (with_reducible refine (HCO.out _).mono ?_)
  rintro e w1 ⟨rfl, g1⟩
  obtain ⟨x, rfl⟩ := ext_of g1
  have HX := Lib.hid g1; clear g1 hm
  have hm := fun n w => methAssert n rel a b w
  go_wp2_with fail
  refine wp_region_ext (by kernel_rfl) (by kernel_rfl) ?_
  repeat (go_big_quiet_step ((first | (with_reducible exact ext_same (Cd.out _)) | (with_reducible exact ext_same (Ca.out _)) | (with_reducible exact ext_same (Cb.out _)) | (with_reducible exact ext_grow (HCN.out _)))))
  refine wpQuiet_nil ?_
  intro _ hw'
  obtain ⟨y, hw''⟩ := hw'
  subst hw''
  have HY := Lib.hid (ext_grew _ y)
  go_wp2_with (first | fail | ((with_reducible refine (isRel rel _).mono ?_); rintro e w2 ⟨rfl, rfl⟩))
  all_goals
    go_ret
    exact ⟨by simp [tailB, *], (by repeat (first | exact Below.refl _ _ | apply grew_ext | apply grew_al | apply grew_dn | (refine grew_set ?_ (by repeat (first | exact Nat.le_refl _ | apply le_ext | apply le_al | apply le_pl)) _)))⟩

set_option maxRecDepth 100000 in
set_option maxHeartbeats 4000000 in
theorem implInsOkTRet (d a b rel lo hi to procs size : Int) (w : World) 
    (hq : insEqB ⟨(12 : Int), 0, a, 0, 0, 0, 0, 0⟩ ⟨(12 : Int), d, a, b, rel, lo, hi, to⟩ = true) (hd : varB d = true) (ha : varB a = true) (hb : varB b = true) :
    Calls Tryz.prog 53 #[Ins.v ⟨(12 : Int), d, a, b, rel, lo, hi, to⟩, .int .i64 procs, .int .i64 size] w fun e w' => e = .returned (.bool (tailB ⟨(12 : Int), d, a, b, rel, lo, hi, to⟩ procs size)) ∧ Grew w w' := by
  have HCO : Hid (∀ w, Calls Tryz.prog 68 #[Ins.v ⟨(12 : Int), d, a, b, rel, lo, hi, to⟩] w fun e w' => e = .returned (.iface 129 (.agg #[.int .i64 a])) ∧ Grew w w') := Lib.hid (fun w => by
    have := codeOf ⟨(12 : Int), d, a, b, rel, lo, hi, to⟩ w
    rw [show codeV ⟨(12 : Int), d, a, b, rel, lo, hi, to⟩ = .iface 129 (.agg #[.int .i64 a]) from rfl] at this
    exact this)
  have HCN : Hid (∀ w, Calls Tryz.prog 125 #[.agg #[.int .i64 a]] w fun e w' => e = .returned (.agg #[.int .i64 (12 : Int), .int .i64 0, .int .i64 a, .int .i64 0, .int .i64 0, .int .i64 0, .int .i64 0, .int .i64 0]) ∧ Grew w w') := Lib.hid (fun w => insRet a w)
  have hm := fun n w => methRet n a w
  have Cd : Hid (∀ w, Calls Tryz.prog 69 #[.int .i64 d] w fun e w' => e = .returned (.bool true) ∧ w = w') := Lib.hid (fun w => bool_is (isVar d w) ((varB4 d).trans hd))
  have Ca : Hid (∀ w, Calls Tryz.prog 69 #[.int .i64 a] w fun e w' => e = .returned (.bool true) ∧ w = w') := Lib.hid (fun w => bool_is (isVar a w) ((varB4 a).trans ha))
  have Cb : Hid (∀ w, Calls Tryz.prog 69 #[.int .i64 b] w fun e w' => e = .returned (.bool true) ∧ w = w') := Lib.hid (fun w => bool_is (isVar b w) ((varB4 b).trans hb))
  clear hd ha hb
  go_enter Tryz.func53, Tryz.ntmps53
  go_wp2_with fail
  (with_reducible refine (HCO.out _).mono ?_)
  rintro e w1 ⟨rfl, g1⟩
  obtain ⟨x, rfl⟩ := ext_of g1
  have HX := Lib.hid g1; clear g1 hm
  have hm := fun n w => methRet n a w
  go_wp2_with fail
  refine wp_region_ext (by kernel_rfl) (by kernel_rfl) ?_
  repeat (go_big_quiet_step ((first | (with_reducible exact ext_same (Cd.out _)) | (with_reducible exact ext_same (Ca.out _)) | (with_reducible exact ext_same (Cb.out _)) | (with_reducible exact ext_grow (HCN.out _)))))
  refine wpQuiet_nil ?_
  intro _ hw'
  obtain ⟨y, hw''⟩ := hw'
  subst hw''
  have HY := Lib.hid (ext_grew _ y)
  go_wp2_with (first | fail | fail)
  all_goals
    go_ret
    exact ⟨rfl, (by repeat (first | exact Below.refl _ _ | apply grew_ext | apply grew_al | apply grew_dn | (refine grew_set ?_ (by repeat (first | exact Nat.le_refl _ | apply le_ext | apply le_al | apply le_pl)) _)))⟩
end Go.Proofs.YtmcfengnihomcaaGreat

/- The program's InsOk is the reference's, and the walk of the law on it. No condition. -/
namespace Go.Proofs.YtmcfengnihomcaaGreat
open Go.RowKit
set_option linter.unusedVariables false
attribute [local go_sem] ext_cell ext_lt ext_le ext_le1

theorem insOkB_of {i : Ins} {procs size : Int} {q : Bool} (h : (decide (1 ≤ i.op) && decide (i.op ≤ 12)) = true) (hq : decide (formV i = ⟨0, 0, 0, 0, 0, 0, 0, 0⟩) = q) :
    insOkB i procs size = (q && (varB i.d && (varB i.a && varB i.b)) && tailB i procs size) := by
  simp only [insOkB, headB, h, hq, Bool.true_and]

theorem implInsOkArith (op d a b rel lo hi to procs size : Int) (w : World) (ho : op = 1 ∨ op = 2 ∨ op = 3 ∨ op = 4) :
    Calls Tryz.prog 53 #[Ins.v ⟨op, d, a, b, rel, lo, hi, to⟩, .int .i64 procs, .int .i64 size] w fun e w' => e = .returned (.bool (insOkB ⟨op, d, a, b, rel, lo, hi, to⟩ procs size)) ∧ Grew w w' := by
  have hr : (decide (1 ≤ op) && decide (op ≤ 12)) = true := by simp; omega
  have hf : decide (formV ⟨op, d, a, b, rel, lo, hi, to⟩ = ⟨0, 0, 0, 0, 0, 0, 0, 0⟩) = insEqB ⟨op, d, a, b, 0, 0, 0, 0⟩ ⟨op, d, a, b, rel, lo, hi, to⟩ := by
    rcases ho with rfl | rfl | rfl | rfl <;> simp [formV, insEqB, eq_comm]
  have CO := fun w => codeOf ⟨op, d, a, b, rel, lo, hi, to⟩ w
  have hcv : codeV ⟨op, d, a, b, rel, lo, hi, to⟩ = .iface 123 (.agg #[.int .i64 op, .int .i64 d, .int .i64 a, .int .i64 b]) := by simp [codeV, ho]
  rw [hcv] at CO
  rw [insOkB_of hr hf]
  cases hq : insEqB ⟨op, d, a, b, 0, 0, 0, 0⟩ ⟨op, d, a, b, rel, lo, hi, to⟩
  · exact implInsOkF 123 (.agg #[.int .i64 op, .int .i64 d, .int .i64 a, .int .i64 b]) 122 op d a b rel lo hi to procs size ⟨op, d, a, b, 0, 0, 0, 0⟩ w CO (fun n w => methArith n op d a b w) (fun args w => by kernel_rfl) (fun w => insArith op d a b w) hq
  simp only [Bool.true_and]
  cases hd : varB d
  · exact implInsOkD 123 (.agg #[.int .i64 op, .int .i64 d, .int .i64 a, .int .i64 b]) 122 op d a b rel lo hi to procs size ⟨op, d, a, b, 0, 0, 0, 0⟩ w CO (fun n w => methArith n op d a b w) (fun args w => by kernel_rfl) (fun w => insArith op d a b w) hq hd
  cases ha : varB a
  · exact implInsOkA 123 (.agg #[.int .i64 op, .int .i64 d, .int .i64 a, .int .i64 b]) 122 op d a b rel lo hi to procs size ⟨op, d, a, b, 0, 0, 0, 0⟩ w CO (fun n w => methArith n op d a b w) (fun args w => by kernel_rfl) (fun w => insArith op d a b w) hq hd ha
  cases hb : varB b
  · exact implInsOkB 123 (.agg #[.int .i64 op, .int .i64 d, .int .i64 a, .int .i64 b]) 122 op d a b rel lo hi to procs size ⟨op, d, a, b, 0, 0, 0, 0⟩ w CO (fun n w => methArith n op d a b w) (fun args w => by kernel_rfl) (fun w => insArith op d a b w) hq hd ha hb
  exact implInsOkTArith op d a b rel lo hi to procs size w ho hq hd ha hb

theorem implInsOkAny (d a b rel lo hi to procs size : Int) (w : World) :
    Calls Tryz.prog 53 #[Ins.v ⟨(5 : Int), d, a, b, rel, lo, hi, to⟩, .int .i64 procs, .int .i64 size] w fun e w' => e = .returned (.bool (insOkB ⟨(5 : Int), d, a, b, rel, lo, hi, to⟩ procs size)) ∧ Grew w w' := by
  have hr : (decide (1 ≤ (5 : Int)) && decide ((5 : Int) ≤ 12)) = true := rfl
  have hf : decide (formV ⟨(5 : Int), d, a, b, rel, lo, hi, to⟩ = ⟨0, 0, 0, 0, 0, 0, 0, 0⟩) = insEqB ⟨(5 : Int), d, 0, 0, 0, lo, hi, 0⟩ ⟨(5 : Int), d, a, b, rel, lo, hi, to⟩ := by
    simp [formV, insEqB, eq_comm]
  have CO := fun w => codeOf ⟨(5 : Int), d, a, b, rel, lo, hi, to⟩ w
  have hcv : codeV ⟨(5 : Int), d, a, b, rel, lo, hi, to⟩ = .iface 106 (.agg #[.int .i64 d, .int .i64 lo, .int .i64 hi]) := rfl
  rw [hcv] at CO
  rw [insOkB_of hr hf]
  cases hq : insEqB ⟨(5 : Int), d, 0, 0, 0, lo, hi, 0⟩ ⟨(5 : Int), d, a, b, rel, lo, hi, to⟩
  · exact implInsOkF 106 (.agg #[.int .i64 d, .int .i64 lo, .int .i64 hi]) 117 (5 : Int) d a b rel lo hi to procs size ⟨(5 : Int), d, 0, 0, 0, lo, hi, 0⟩ w CO (fun n w => methAny n d lo hi w) (fun args w => by kernel_rfl) (fun w => insAny d lo hi w) hq
  simp only [Bool.true_and]
  cases hd : varB d
  · exact implInsOkD 106 (.agg #[.int .i64 d, .int .i64 lo, .int .i64 hi]) 117 (5 : Int) d a b rel lo hi to procs size ⟨(5 : Int), d, 0, 0, 0, lo, hi, 0⟩ w CO (fun n w => methAny n d lo hi w) (fun args w => by kernel_rfl) (fun w => insAny d lo hi w) hq hd
  cases ha : varB a
  · exact implInsOkA 106 (.agg #[.int .i64 d, .int .i64 lo, .int .i64 hi]) 117 (5 : Int) d a b rel lo hi to procs size ⟨(5 : Int), d, 0, 0, 0, lo, hi, 0⟩ w CO (fun n w => methAny n d lo hi w) (fun args w => by kernel_rfl) (fun w => insAny d lo hi w) hq hd ha
  cases hb : varB b
  · exact implInsOkB 106 (.agg #[.int .i64 d, .int .i64 lo, .int .i64 hi]) 117 (5 : Int) d a b rel lo hi to procs size ⟨(5 : Int), d, 0, 0, 0, lo, hi, 0⟩ w CO (fun n w => methAny n d lo hi w) (fun args w => by kernel_rfl) (fun w => insAny d lo hi w) hq hd ha hb
  exact implInsOkTAny d a b rel lo hi to procs size w  hq hd ha hb

theorem implInsOkLoad (d a b rel lo hi to procs size : Int) (w : World) :
    Calls Tryz.prog 53 #[Ins.v ⟨(6 : Int), d, a, b, rel, lo, hi, to⟩, .int .i64 procs, .int .i64 size] w fun e w' => e = .returned (.bool (insOkB ⟨(6 : Int), d, a, b, rel, lo, hi, to⟩ procs size)) ∧ Grew w w' := by
  have hr : (decide (1 ≤ (6 : Int)) && decide ((6 : Int) ≤ 12)) = true := rfl
  have hf : decide (formV ⟨(6 : Int), d, a, b, rel, lo, hi, to⟩ = ⟨0, 0, 0, 0, 0, 0, 0, 0⟩) = insEqB ⟨(6 : Int), d, a, 0, 0, 0, 0, 0⟩ ⟨(6 : Int), d, a, b, rel, lo, hi, to⟩ := by
    simp [formV, insEqB, eq_comm]
  have CO := fun w => codeOf ⟨(6 : Int), d, a, b, rel, lo, hi, to⟩ w
  have hcv : codeV ⟨(6 : Int), d, a, b, rel, lo, hi, to⟩ = .iface 125 (.agg #[.int .i64 d, .int .i64 a]) := rfl
  rw [hcv] at CO
  rw [insOkB_of hr hf]
  cases hq : insEqB ⟨(6 : Int), d, a, 0, 0, 0, 0, 0⟩ ⟨(6 : Int), d, a, b, rel, lo, hi, to⟩
  · exact implInsOkF 125 (.agg #[.int .i64 d, .int .i64 a]) 123 (6 : Int) d a b rel lo hi to procs size ⟨(6 : Int), d, a, 0, 0, 0, 0, 0⟩ w CO (fun n w => methLoad n d a w) (fun args w => by kernel_rfl) (fun w => insLoad d a w) hq
  simp only [Bool.true_and]
  cases hd : varB d
  · exact implInsOkD 125 (.agg #[.int .i64 d, .int .i64 a]) 123 (6 : Int) d a b rel lo hi to procs size ⟨(6 : Int), d, a, 0, 0, 0, 0, 0⟩ w CO (fun n w => methLoad n d a w) (fun args w => by kernel_rfl) (fun w => insLoad d a w) hq hd
  cases ha : varB a
  · exact implInsOkA 125 (.agg #[.int .i64 d, .int .i64 a]) 123 (6 : Int) d a b rel lo hi to procs size ⟨(6 : Int), d, a, 0, 0, 0, 0, 0⟩ w CO (fun n w => methLoad n d a w) (fun args w => by kernel_rfl) (fun w => insLoad d a w) hq hd ha
  cases hb : varB b
  · exact implInsOkB 125 (.agg #[.int .i64 d, .int .i64 a]) 123 (6 : Int) d a b rel lo hi to procs size ⟨(6 : Int), d, a, 0, 0, 0, 0, 0⟩ w CO (fun n w => methLoad n d a w) (fun args w => by kernel_rfl) (fun w => insLoad d a w) hq hd ha hb
  exact implInsOkTLoad d a b rel lo hi to procs size w  hq hd ha hb

theorem implInsOkStore (d a b rel lo hi to procs size : Int) (w : World) :
    Calls Tryz.prog 53 #[Ins.v ⟨(7 : Int), d, a, b, rel, lo, hi, to⟩, .int .i64 procs, .int .i64 size] w fun e w' => e = .returned (.bool (insOkB ⟨(7 : Int), d, a, b, rel, lo, hi, to⟩ procs size)) ∧ Grew w w' := by
  have hr : (decide (1 ≤ (7 : Int)) && decide ((7 : Int) ≤ 12)) = true := rfl
  have hf : decide (formV ⟨(7 : Int), d, a, b, rel, lo, hi, to⟩ = ⟨0, 0, 0, 0, 0, 0, 0, 0⟩) = insEqB ⟨(7 : Int), 0, a, b, 0, 0, 0, 0⟩ ⟨(7 : Int), d, a, b, rel, lo, hi, to⟩ := by
    simp [formV, insEqB, eq_comm]
  have CO := fun w => codeOf ⟨(7 : Int), d, a, b, rel, lo, hi, to⟩ w
  have hcv : codeV ⟨(7 : Int), d, a, b, rel, lo, hi, to⟩ = .iface 127 (.agg #[.int .i64 a, .int .i64 b]) := rfl
  rw [hcv] at CO
  rw [insOkB_of hr hf]
  cases hq : insEqB ⟨(7 : Int), 0, a, b, 0, 0, 0, 0⟩ ⟨(7 : Int), d, a, b, rel, lo, hi, to⟩
  · exact implInsOkF 127 (.agg #[.int .i64 a, .int .i64 b]) 124 (7 : Int) d a b rel lo hi to procs size ⟨(7 : Int), 0, a, b, 0, 0, 0, 0⟩ w CO (fun n w => methStore n a b w) (fun args w => by kernel_rfl) (fun w => insStore a b w) hq
  simp only [Bool.true_and]
  cases hd : varB d
  · exact implInsOkD 127 (.agg #[.int .i64 a, .int .i64 b]) 124 (7 : Int) d a b rel lo hi to procs size ⟨(7 : Int), 0, a, b, 0, 0, 0, 0⟩ w CO (fun n w => methStore n a b w) (fun args w => by kernel_rfl) (fun w => insStore a b w) hq hd
  cases ha : varB a
  · exact implInsOkA 127 (.agg #[.int .i64 a, .int .i64 b]) 124 (7 : Int) d a b rel lo hi to procs size ⟨(7 : Int), 0, a, b, 0, 0, 0, 0⟩ w CO (fun n w => methStore n a b w) (fun args w => by kernel_rfl) (fun w => insStore a b w) hq hd ha
  cases hb : varB b
  · exact implInsOkB 127 (.agg #[.int .i64 a, .int .i64 b]) 124 (7 : Int) d a b rel lo hi to procs size ⟨(7 : Int), 0, a, b, 0, 0, 0, 0⟩ w CO (fun n w => methStore n a b w) (fun args w => by kernel_rfl) (fun w => insStore a b w) hq hd ha hb
  exact implInsOkTStore d a b rel lo hi to procs size w  hq hd ha hb

theorem implInsOkIf (d a b rel lo hi to procs size : Int) (w : World) :
    Calls Tryz.prog 53 #[Ins.v ⟨(8 : Int), d, a, b, rel, lo, hi, to⟩, .int .i64 procs, .int .i64 size] w fun e w' => e = .returned (.bool (insOkB ⟨(8 : Int), d, a, b, rel, lo, hi, to⟩ procs size)) ∧ Grew w w' := by
  have hr : (decide (1 ≤ (8 : Int)) && decide ((8 : Int) ≤ 12)) = true := rfl
  have hf : decide (formV ⟨(8 : Int), d, a, b, rel, lo, hi, to⟩ = ⟨0, 0, 0, 0, 0, 0, 0, 0⟩) = insEqB ⟨(8 : Int), 0, a, b, rel, 0, 0, to⟩ ⟨(8 : Int), d, a, b, rel, lo, hi, to⟩ := by
    simp [formV, insEqB, eq_comm]
  have CO := fun w => codeOf ⟨(8 : Int), d, a, b, rel, lo, hi, to⟩ w
  have hcv : codeV ⟨(8 : Int), d, a, b, rel, lo, hi, to⟩ = .iface 108 (.agg #[.int .i64 rel, .int .i64 a, .int .i64 b, .int .i64 to]) := rfl
  rw [hcv] at CO
  rw [insOkB_of hr hf]
  cases hq : insEqB ⟨(8 : Int), 0, a, b, rel, 0, 0, to⟩ ⟨(8 : Int), d, a, b, rel, lo, hi, to⟩
  · exact implInsOkF 108 (.agg #[.int .i64 rel, .int .i64 a, .int .i64 b, .int .i64 to]) 118 (8 : Int) d a b rel lo hi to procs size ⟨(8 : Int), 0, a, b, rel, 0, 0, to⟩ w CO (fun n w => methIf n rel a b to w) (fun args w => by kernel_rfl) (fun w => insIf rel a b to w) hq
  simp only [Bool.true_and]
  cases hd : varB d
  · exact implInsOkD 108 (.agg #[.int .i64 rel, .int .i64 a, .int .i64 b, .int .i64 to]) 118 (8 : Int) d a b rel lo hi to procs size ⟨(8 : Int), 0, a, b, rel, 0, 0, to⟩ w CO (fun n w => methIf n rel a b to w) (fun args w => by kernel_rfl) (fun w => insIf rel a b to w) hq hd
  cases ha : varB a
  · exact implInsOkA 108 (.agg #[.int .i64 rel, .int .i64 a, .int .i64 b, .int .i64 to]) 118 (8 : Int) d a b rel lo hi to procs size ⟨(8 : Int), 0, a, b, rel, 0, 0, to⟩ w CO (fun n w => methIf n rel a b to w) (fun args w => by kernel_rfl) (fun w => insIf rel a b to w) hq hd ha
  cases hb : varB b
  · exact implInsOkB 108 (.agg #[.int .i64 rel, .int .i64 a, .int .i64 b, .int .i64 to]) 118 (8 : Int) d a b rel lo hi to procs size ⟨(8 : Int), 0, a, b, rel, 0, 0, to⟩ w CO (fun n w => methIf n rel a b to w) (fun args w => by kernel_rfl) (fun w => insIf rel a b to w) hq hd ha hb
  exact implInsOkTIf d a b rel lo hi to procs size w  hq hd ha hb

theorem implInsOkJump (d a b rel lo hi to procs size : Int) (w : World) :
    Calls Tryz.prog 53 #[Ins.v ⟨(9 : Int), d, a, b, rel, lo, hi, to⟩, .int .i64 procs, .int .i64 size] w fun e w' => e = .returned (.bool (insOkB ⟨(9 : Int), d, a, b, rel, lo, hi, to⟩ procs size)) ∧ Grew w w' := by
  have hr : (decide (1 ≤ (9 : Int)) && decide ((9 : Int) ≤ 12)) = true := rfl
  have hf : decide (formV ⟨(9 : Int), d, a, b, rel, lo, hi, to⟩ = ⟨0, 0, 0, 0, 0, 0, 0, 0⟩) = insEqB ⟨(9 : Int), 0, 0, 0, 0, 0, 0, to⟩ ⟨(9 : Int), d, a, b, rel, lo, hi, to⟩ := by
    simp [formV, insEqB, eq_comm]
  have CO := fun w => codeOf ⟨(9 : Int), d, a, b, rel, lo, hi, to⟩ w
  have hcv : codeV ⟨(9 : Int), d, a, b, rel, lo, hi, to⟩ = .iface 111 (.agg #[.int .i64 to]) := rfl
  rw [hcv] at CO
  rw [insOkB_of hr hf]
  cases hq : insEqB ⟨(9 : Int), 0, 0, 0, 0, 0, 0, to⟩ ⟨(9 : Int), d, a, b, rel, lo, hi, to⟩
  · exact implInsOkF 111 (.agg #[.int .i64 to]) 119 (9 : Int) d a b rel lo hi to procs size ⟨(9 : Int), 0, 0, 0, 0, 0, 0, to⟩ w CO (fun n w => methJump n to w) (fun args w => by kernel_rfl) (fun w => insJump to w) hq
  simp only [Bool.true_and]
  cases hd : varB d
  · exact implInsOkD 111 (.agg #[.int .i64 to]) 119 (9 : Int) d a b rel lo hi to procs size ⟨(9 : Int), 0, 0, 0, 0, 0, 0, to⟩ w CO (fun n w => methJump n to w) (fun args w => by kernel_rfl) (fun w => insJump to w) hq hd
  cases ha : varB a
  · exact implInsOkA 111 (.agg #[.int .i64 to]) 119 (9 : Int) d a b rel lo hi to procs size ⟨(9 : Int), 0, 0, 0, 0, 0, 0, to⟩ w CO (fun n w => methJump n to w) (fun args w => by kernel_rfl) (fun w => insJump to w) hq hd ha
  cases hb : varB b
  · exact implInsOkB 111 (.agg #[.int .i64 to]) 119 (9 : Int) d a b rel lo hi to procs size ⟨(9 : Int), 0, 0, 0, 0, 0, 0, to⟩ w CO (fun n w => methJump n to w) (fun args w => by kernel_rfl) (fun w => insJump to w) hq hd ha hb
  exact implInsOkTJump d a b rel lo hi to procs size w  hq hd ha hb

theorem implInsOkCall (d a b rel lo hi to procs size : Int) (w : World) :
    Calls Tryz.prog 53 #[Ins.v ⟨(10 : Int), d, a, b, rel, lo, hi, to⟩, .int .i64 procs, .int .i64 size] w fun e w' => e = .returned (.bool (insOkB ⟨(10 : Int), d, a, b, rel, lo, hi, to⟩ procs size)) ∧ Grew w w' := by
  have hr : (decide (1 ≤ (10 : Int)) && decide ((10 : Int) ≤ 12)) = true := rfl
  have hf : decide (formV ⟨(10 : Int), d, a, b, rel, lo, hi, to⟩ = ⟨0, 0, 0, 0, 0, 0, 0, 0⟩) = insEqB ⟨(10 : Int), d, a, 0, 0, 0, 0, to⟩ ⟨(10 : Int), d, a, b, rel, lo, hi, to⟩ := by
    simp [formV, insEqB, eq_comm]
  have CO := fun w => codeOf ⟨(10 : Int), d, a, b, rel, lo, hi, to⟩ w
  have hcv : codeV ⟨(10 : Int), d, a, b, rel, lo, hi, to⟩ = .iface 113 (.agg #[.int .i64 d, .int .i64 a, .int .i64 to]) := rfl
  rw [hcv] at CO
  rw [insOkB_of hr hf]
  cases hq : insEqB ⟨(10 : Int), d, a, 0, 0, 0, 0, to⟩ ⟨(10 : Int), d, a, b, rel, lo, hi, to⟩
  · exact implInsOkF 113 (.agg #[.int .i64 d, .int .i64 a, .int .i64 to]) 120 (10 : Int) d a b rel lo hi to procs size ⟨(10 : Int), d, a, 0, 0, 0, 0, to⟩ w CO (fun n w => methCall n d a to w) (fun args w => by kernel_rfl) (fun w => insCall d a to w) hq
  simp only [Bool.true_and]
  cases hd : varB d
  · exact implInsOkD 113 (.agg #[.int .i64 d, .int .i64 a, .int .i64 to]) 120 (10 : Int) d a b rel lo hi to procs size ⟨(10 : Int), d, a, 0, 0, 0, 0, to⟩ w CO (fun n w => methCall n d a to w) (fun args w => by kernel_rfl) (fun w => insCall d a to w) hq hd
  cases ha : varB a
  · exact implInsOkA 113 (.agg #[.int .i64 d, .int .i64 a, .int .i64 to]) 120 (10 : Int) d a b rel lo hi to procs size ⟨(10 : Int), d, a, 0, 0, 0, 0, to⟩ w CO (fun n w => methCall n d a to w) (fun args w => by kernel_rfl) (fun w => insCall d a to w) hq hd ha
  cases hb : varB b
  · exact implInsOkB 113 (.agg #[.int .i64 d, .int .i64 a, .int .i64 to]) 120 (10 : Int) d a b rel lo hi to procs size ⟨(10 : Int), d, a, 0, 0, 0, 0, to⟩ w CO (fun n w => methCall n d a to w) (fun args w => by kernel_rfl) (fun w => insCall d a to w) hq hd ha hb
  exact implInsOkTCall d a b rel lo hi to procs size w  hq hd ha hb

theorem implInsOkAssert (d a b rel lo hi to procs size : Int) (w : World) :
    Calls Tryz.prog 53 #[Ins.v ⟨(11 : Int), d, a, b, rel, lo, hi, to⟩, .int .i64 procs, .int .i64 size] w fun e w' => e = .returned (.bool (insOkB ⟨(11 : Int), d, a, b, rel, lo, hi, to⟩ procs size)) ∧ Grew w w' := by
  have hr : (decide (1 ≤ (11 : Int)) && decide ((11 : Int) ≤ 12)) = true := rfl
  have hf : decide (formV ⟨(11 : Int), d, a, b, rel, lo, hi, to⟩ = ⟨0, 0, 0, 0, 0, 0, 0, 0⟩) = insEqB ⟨(11 : Int), 0, a, b, rel, 0, 0, 0⟩ ⟨(11 : Int), d, a, b, rel, lo, hi, to⟩ := by
    simp [formV, insEqB, eq_comm]
  have CO := fun w => codeOf ⟨(11 : Int), d, a, b, rel, lo, hi, to⟩ w
  have hcv : codeV ⟨(11 : Int), d, a, b, rel, lo, hi, to⟩ = .iface 115 (.agg #[.int .i64 rel, .int .i64 a, .int .i64 b]) := rfl
  rw [hcv] at CO
  rw [insOkB_of hr hf]
  cases hq : insEqB ⟨(11 : Int), 0, a, b, rel, 0, 0, 0⟩ ⟨(11 : Int), d, a, b, rel, lo, hi, to⟩
  · exact implInsOkF 115 (.agg #[.int .i64 rel, .int .i64 a, .int .i64 b]) 121 (11 : Int) d a b rel lo hi to procs size ⟨(11 : Int), 0, a, b, rel, 0, 0, 0⟩ w CO (fun n w => methAssert n rel a b w) (fun args w => by kernel_rfl) (fun w => insAssert rel a b w) hq
  simp only [Bool.true_and]
  cases hd : varB d
  · exact implInsOkD 115 (.agg #[.int .i64 rel, .int .i64 a, .int .i64 b]) 121 (11 : Int) d a b rel lo hi to procs size ⟨(11 : Int), 0, a, b, rel, 0, 0, 0⟩ w CO (fun n w => methAssert n rel a b w) (fun args w => by kernel_rfl) (fun w => insAssert rel a b w) hq hd
  cases ha : varB a
  · exact implInsOkA 115 (.agg #[.int .i64 rel, .int .i64 a, .int .i64 b]) 121 (11 : Int) d a b rel lo hi to procs size ⟨(11 : Int), 0, a, b, rel, 0, 0, 0⟩ w CO (fun n w => methAssert n rel a b w) (fun args w => by kernel_rfl) (fun w => insAssert rel a b w) hq hd ha
  cases hb : varB b
  · exact implInsOkB 115 (.agg #[.int .i64 rel, .int .i64 a, .int .i64 b]) 121 (11 : Int) d a b rel lo hi to procs size ⟨(11 : Int), 0, a, b, rel, 0, 0, 0⟩ w CO (fun n w => methAssert n rel a b w) (fun args w => by kernel_rfl) (fun w => insAssert rel a b w) hq hd ha hb
  exact implInsOkTAssert d a b rel lo hi to procs size w  hq hd ha hb

theorem implInsOkRet (d a b rel lo hi to procs size : Int) (w : World) :
    Calls Tryz.prog 53 #[Ins.v ⟨(12 : Int), d, a, b, rel, lo, hi, to⟩, .int .i64 procs, .int .i64 size] w fun e w' => e = .returned (.bool (insOkB ⟨(12 : Int), d, a, b, rel, lo, hi, to⟩ procs size)) ∧ Grew w w' := by
  have hr : (decide (1 ≤ (12 : Int)) && decide ((12 : Int) ≤ 12)) = true := rfl
  have hf : decide (formV ⟨(12 : Int), d, a, b, rel, lo, hi, to⟩ = ⟨0, 0, 0, 0, 0, 0, 0, 0⟩) = insEqB ⟨(12 : Int), 0, a, 0, 0, 0, 0, 0⟩ ⟨(12 : Int), d, a, b, rel, lo, hi, to⟩ := by
    simp [formV, insEqB, eq_comm]
  have CO := fun w => codeOf ⟨(12 : Int), d, a, b, rel, lo, hi, to⟩ w
  have hcv : codeV ⟨(12 : Int), d, a, b, rel, lo, hi, to⟩ = .iface 129 (.agg #[.int .i64 a]) := rfl
  rw [hcv] at CO
  rw [insOkB_of hr hf]
  cases hq : insEqB ⟨(12 : Int), 0, a, 0, 0, 0, 0, 0⟩ ⟨(12 : Int), d, a, b, rel, lo, hi, to⟩
  · exact implInsOkF 129 (.agg #[.int .i64 a]) 125 (12 : Int) d a b rel lo hi to procs size ⟨(12 : Int), 0, a, 0, 0, 0, 0, 0⟩ w CO (fun n w => methRet n a w) (fun args w => by kernel_rfl) (fun w => insRet a w) hq
  simp only [Bool.true_and]
  cases hd : varB d
  · exact implInsOkD 129 (.agg #[.int .i64 a]) 125 (12 : Int) d a b rel lo hi to procs size ⟨(12 : Int), 0, a, 0, 0, 0, 0, 0⟩ w CO (fun n w => methRet n a w) (fun args w => by kernel_rfl) (fun w => insRet a w) hq hd
  cases ha : varB a
  · exact implInsOkA 129 (.agg #[.int .i64 a]) 125 (12 : Int) d a b rel lo hi to procs size ⟨(12 : Int), 0, a, 0, 0, 0, 0, 0⟩ w CO (fun n w => methRet n a w) (fun args w => by kernel_rfl) (fun w => insRet a w) hq hd ha
  cases hb : varB b
  · exact implInsOkB 129 (.agg #[.int .i64 a]) 125 (12 : Int) d a b rel lo hi to procs size ⟨(12 : Int), 0, a, 0, 0, 0, 0, 0⟩ w CO (fun n w => methRet n a w) (fun args w => by kernel_rfl) (fun w => insRet a w) hq hd ha hb
  exact implInsOkTRet d a b rel lo hi to procs size w  hq hd ha hb

theorem implInsOk (i : Ins) (procs size : Int) (w : World) :
    Calls Tryz.prog 53 #[i.v, .int .i64 procs, .int .i64 size] w fun e w' => e = .returned (.bool (insOkB i procs size)) ∧ Grew w w' := by
  obtain ⟨op, d, a, b, rel, lo, hi, to⟩ := i
  by_cases ho : op = 1 ∨ op = 2 ∨ op = 3 ∨ op = 4
  · exact implInsOkArith _ _ _ _ _ _ _ _ _ _ _ ho
  rcases opCases op with h | h | h | h | rfl | rfl | rfl | rfl | rfl | rfl | rfl | rfl | ⟨n1, n2, n3, n4, n5, n6, n7, n8, n9, n10, n11, n12⟩
  · exact absurd (.inl h) ho
  · exact absurd (.inr (.inl h)) ho
  · exact absurd (.inr (.inr (.inl h))) ho
  · exact absurd (.inr (.inr (.inr h))) ho
  · exact implInsOkAny _ _ _ _ _ _ _ _ _ _
  · exact implInsOkLoad _ _ _ _ _ _ _ _ _ _
  · exact implInsOkStore _ _ _ _ _ _ _ _ _ _
  · exact implInsOkIf _ _ _ _ _ _ _ _ _ _
  · exact implInsOkJump _ _ _ _ _ _ _ _ _ _
  · exact implInsOkCall _ _ _ _ _ _ _ _ _ _
  · exact implInsOkAssert _ _ _ _ _ _ _ _ _ _
  · exact implInsOkRet _ _ _ _ _ _ _ _ _ _
  · rw [show insOkB ⟨op, d, a, b, rel, lo, hi, to⟩ procs size = false from by
      have : (decide (1 ≤ op) && decide (op ≤ 12)) = false := by simp; omega
      simp only [insOkB, headB, this, Bool.false_and]]
    exact implInsOkN _ _ _ _ _ _ _ _ _ _ _ (by simp [codeV, n1, n2, n3, n4, n5, n6, n7, n8, n9, n10, n11, n12])

end Go.Proofs.YtmcfengnihomcaaGreat
/- Contracts of PrgOk of the reference and of the program. No condition. -/
namespace Go.Proofs.YtmcfengnihomcaaGreat
open Go.RowKit
set_option linter.unusedVariables false
attribute [local go_sem] ext_cell ext_frozen ext_lt ext_le ext_le1 lt_s2 lt_s3 lt_s4 lt_s5 lt_s6 ext_lt1 ext_lt2 ext_lt3

def endsB (i : Ins) : Bool := decide (i.op = 12) || decide (i.op = 9)
def lastB (is : List Ins) : Bool := match is.getLast? with | some i => endsB i | none => false
def prcOkB (p : Prc) (procs : Int) : Bool := itvOkB p.lo p.hi && (decide (1 ≤ p.code.length) && decide (p.code.length ≤ 10)) && p.code.all (fun i => insOkB i procs p.code.length) && lastB p.code
def prgOkB (ps : List Prc) : Bool := (decide (1 ≤ ps.length) && decide (ps.length ≤ 4)) && ps.all (fun p => prcOkB p ps.length)

theorem lastB_of {is : List Ins} {i : Ins} {m : Nat} (hl : is.length = m + 1) (h : is[m]? = some i) : lastB is = endsB i := by
  have : is.getLast? = some i := by rw [List.getLast?_eq_getElem?, hl]; exact h
  rw [lastB, this]

set_option maxHeartbeats 2000000 in
theorem specL3Proc (lo hi : Int) (a : Option Addr) (n cap : Nat) (is : List Ins) (procs : Int) (w : World) (hr : RdL EIns 8 w a n is) (hn : n ≤ 9223372036854775807) :
    Calls Tryz.prog 45 #[.agg #[.int .i64 lo, .int .i64 hi, .slice a n cap], .int .i64 procs] w fun e w' => e = .returned (.bool (prcOkB ⟨lo, hi, is⟩ procs)) ∧ Grew w w' := by
  have HL := Lib.hid hr.len
  have HR := Lib.hid hr; clear hr
  by_cases hh : -32768 ≤ lo ∧ lo ≤ 32767 ∧ -32768 ≤ hi ∧ hi ≤ 32767 ∧ lo ≤ hi ∧ 1 ≤ n ∧ n ≤ 10
  · obtain ⟨h1, h2, h3, h4, h5, h6, h7⟩ := hh
    have HH : Hid (prcOkB ⟨lo, hi, is⟩ procs = (is.all (fun i => insOkB i procs n) && lastB is)) := Lib.hid (by
      have := HL.out
      simp [prcOkB, itvOkB, h1, h2, h3, h4, h5, this, h6, h7])
    have h8 : (1 : Int) ≤ (n : Int) := by omega
    have h9 : (n : Int) ≤ 10 := by omega
    have h5' : ¬ hi < lo := by omega
    go_enter Tryz.func45, Tryz.ntmps45
    go_wp2_with (first | ((with_reducible refine (specNumOk _ _).mono ?_); rintro e w' ⟨rfl, rfl⟩) | ((with_reducible refine (l1In _ _ _ _).mono ?_); rintro e w' ⟨rfl, rfl⟩))
    go_loopw [6] (fun i wr => ∃ k : Nat, k ≤ n ∧ i = .int .i64 k ∧ (∃ x, wr = ext (w.alloc (.cells #[.int .i64 lo, .int .i64 hi, .slice a n cap] 65)) x) ∧ ∀ i, i ∈ is.take k → insOkB i procs n = true) (fun i _ => n - (Go.RowKit.intOf i).toNat)
    case atStart => exact ⟨0, Nat.zero_le _, rfl, ext_of (Below.refl _ _), by simp⟩
    case round =>
      obtain ⟨k, hk, rfl, ⟨x, rfl⟩, hall⟩ := hrel
      have HA := Lib.hid hall; clear hall
      have HG : Hid (Grew w (ext (w.alloc (.cells #[.int .i64 lo, .int .i64 hi, .slice a n cap] 65)) x)) := Lib.hid (by repeat (first | with_reducible exact Below.refl _ _ | with_reducible assumption | with_reducible apply grew_ext | with_reducible apply grew_al | with_reducible apply grew_dn | with_reducible apply grew_d | (with_reducible refine grew_set ?_ (by first | omega | (repeat (first | with_reducible exact Nat.le_refl _ | with_reducible apply le_pl | with_reducible apply le_ext | with_reducible apply le_al))) _)))
      by_cases hlt : k < n
      · obtain ⟨b, off, op, d, ia, ib, rel, lo', hi', to, rfl, hx, c0, c1, c2, c3, c4, c5, c6, c7, hb⟩ := rdI_at (HR.out.grew stays_ins HG.out) hlt
        have HX := Lib.hid hx; clear hx
        have C := fun w => specInsOk ⟨op, d, ia, ib, rel, lo', hi', to⟩ procs n w
        cases hq : insOkB ⟨op, d, ia, ib, rel, lo', hi', to⟩ procs n
        · rw [hq] at C
          have HC := Lib.hid C; clear C
          have HQ := Lib.hid hq; clear hq
          go_wp2_with ((with_reducible refine (HC.out _).mono ?_); rintro e w' ⟨rfl, g'⟩; (first | obtain ⟨y, rfl⟩ := ext_cold g' | obtain ⟨y, rfl⟩ := ext_col g' | obtain ⟨y, rfl⟩ := ext_of g'); clear g')
          go_ret
          refine ⟨?_, ?_⟩
          · rw [HH.out]
            have : is.all (fun i => insOkB i procs n) = false := by
              rw [List.all_eq_false]
              exact ⟨_, List.mem_of_getElem? HX.out, by simp [HQ.out]⟩
            rw [this]
            rfl
          · repeat (first | with_reducible exact Below.refl _ _ | with_reducible assumption | with_reducible apply grew_ext | with_reducible apply grew_al | with_reducible apply grew_dn | with_reducible apply grew_d | (with_reducible refine grew_set ?_ (by first | omega | (repeat (first | with_reducible exact Nat.le_refl _ | with_reducible apply le_pl | with_reducible apply le_ext | with_reducible apply le_al))) _))
        · rw [hq] at C
          have HC := Lib.hid C; clear C
          have HQ := Lib.hid hq; clear hq
          go_wp2_with ((with_reducible refine (HC.out _).mono ?_); rintro e w' ⟨rfl, g'⟩; (first | obtain ⟨y, rfl⟩ := ext_cold g' | obtain ⟨y, rfl⟩ := ext_col g' | obtain ⟨y, rfl⟩ := ext_of g'); clear g')
          go_roundw
          case rel =>
            refine ⟨k + 1, by omega, by go_num, ext_of (by repeat (first | with_reducible exact Below.refl _ _ | with_reducible assumption | with_reducible apply grew_ext | with_reducible apply grew_al | with_reducible apply grew_dn | with_reducible apply grew_d | (with_reducible refine grew_set ?_ (by first | omega | (repeat (first | with_reducible exact Nat.le_refl _ | with_reducible apply le_pl | with_reducible apply le_ext | with_reducible apply le_al))) _))), fun i hi => ?_⟩
            rw [take_get HX.out] at hi
            rcases List.mem_append.1 hi with hi | hi
            · exact HA.out i hi
            · obtain rfl := List.mem_singleton.1 hi
              exact HQ.out
          case measure => simp [Go.RowKit.intOf]; omega
      · have hall : is.all (fun i => insOkB i procs n) = true := by
          rw [List.all_eq_true]
          intro i hi
          exact HA.out i (by rw [List.take_of_length_le (by have := HL.out; omega)]; exact hi)
        have HF := Lib.hid hall; clear hall
        obtain ⟨b, off, op, d, ia, ib, rel, lo', hi', to, rfl, hx, c0, c1, c2, c3, c4, c5, c6, c7, hb⟩ := rdI_at (HR.out.grew stays_ins HG.out) (k := n - 1) (by omega)
        have HE : Hid (prcOkB ⟨lo, hi, is⟩ procs = (decide (op = 12) || decide (op = 9))) := Lib.hid (by
          rw [HH.out, HF.out, lastB_of (m := n - 1) (by have := HL.out; omega) hx]
          rfl)
        clear hx
        go_wp2
        all_goals
          go_ret
          refine ⟨by rw [HE.out]; go_light; by_cases h12 : op = 12 <;> by_cases h9' : op = 9 <;> simp_all, ?_⟩
          repeat (first | with_reducible exact Below.refl _ _ | with_reducible assumption | with_reducible apply grew_ext | with_reducible apply grew_al | with_reducible apply grew_dn | with_reducible apply grew_d | (with_reducible refine grew_set ?_ (by first | omega | (repeat (first | with_reducible exact Nat.le_refl _ | with_reducible apply le_pl | with_reducible apply le_ext | with_reducible apply le_al))) _))
  · have HF : Hid (prcOkB ⟨lo, hi, is⟩ procs = false) := Lib.hid (by
      have h1 := HL.out
      rw [Bool.eq_false_iff]
      intro h
      simp only [prcOkB, itvOkB, Bool.and_eq_true, decide_eq_true_eq, h1] at h
      obtain ⟨⟨⟨⟨⟨⟨a1, a2⟩, a3, a4⟩, a5⟩, a6, a7⟩, _⟩, _⟩ := h
      exact hh ⟨a1, a2, a3, a4, a5, a6, a7⟩)
    rw [HF.out]
    clear HF HR HL
    by_cases h1 : -32768 ≤ lo ∧ lo ≤ 32767
    · obtain ⟨h1, h2⟩ := h1
      by_cases h3 : -32768 ≤ hi ∧ hi ≤ 32767
      · obtain ⟨h3, h4⟩ := h3
        by_cases h5 : hi < lo
        · clear hh
          go_enter Tryz.func45, Tryz.ntmps45
          go_wp2_with (first | ((with_reducible refine (specNumOk _ _).mono ?_); rintro e w' ⟨rfl, rfl⟩) | ((with_reducible refine (l1In _ _ _ _).mono ?_); rintro e w' ⟨rfl, rfl⟩))
          go_ret
          refine ⟨rfl, ?_⟩
          repeat (first | with_reducible exact Below.refl _ _ | with_reducible assumption | with_reducible apply grew_ext | with_reducible apply grew_al | with_reducible apply grew_dn | with_reducible apply grew_d | (with_reducible refine grew_set ?_ (by first | omega | (repeat (first | with_reducible exact Nat.le_refl _ | with_reducible apply le_pl | with_reducible apply le_ext | with_reducible apply le_al))) _))
        · have C := fun w => bool_is (b := false) (l1In n 1 10 w) (by rw [Bool.eq_false_iff]; simp only [ne_eq, Bool.and_eq_true, decide_eq_true_eq]; omega)
          have HC := Lib.hid C; clear C hh
          go_enter Tryz.func45, Tryz.ntmps45
          go_wp2_with (first | ((with_reducible refine (specNumOk _ _).mono ?_); rintro e w' ⟨rfl, rfl⟩) | ((with_reducible refine (HC.out _).mono ?_); rintro e w' ⟨rfl, rfl⟩))
          go_ret
          refine ⟨rfl, ?_⟩
          repeat (first | with_reducible exact Below.refl _ _ | with_reducible assumption | with_reducible apply grew_ext | with_reducible apply grew_al | with_reducible apply grew_dn | with_reducible apply grew_d | (with_reducible refine grew_set ?_ (by first | omega | (repeat (first | with_reducible exact Nat.le_refl _ | with_reducible apply le_pl | with_reducible apply le_ext | with_reducible apply le_al))) _))
      · have C := fun w => bool_is (b := false) (specNumOk hi w) (by rw [Bool.eq_false_iff]; simp only [ne_eq, Bool.and_eq_true, decide_eq_true_eq]; omega)
        have C0 := fun w => bool_is (b := true) (specNumOk lo w) (by simp only [Bool.and_eq_true, decide_eq_true_eq]; omega)
        have HC := Lib.hid C; clear C hh
        have HC0 := Lib.hid C0; clear C0 h3 h1 h2
        go_enter Tryz.func45, Tryz.ntmps45
        go_wp2_with (first | ((with_reducible refine (HC0.out _).mono ?_); rintro e w' ⟨rfl, rfl⟩) | ((with_reducible refine (HC.out _).mono ?_); rintro e w' ⟨rfl, rfl⟩))
        go_ret
        refine ⟨rfl, ?_⟩
        repeat (first | with_reducible exact Below.refl _ _ | with_reducible assumption | with_reducible apply grew_ext | with_reducible apply grew_al | with_reducible apply grew_dn | with_reducible apply grew_d | (with_reducible refine grew_set ?_ (by first | omega | (repeat (first | with_reducible exact Nat.le_refl _ | with_reducible apply le_pl | with_reducible apply le_ext | with_reducible apply le_al))) _))
    · have C := fun w => bool_is (b := false) (specNumOk lo w) (by rw [Bool.eq_false_iff]; simp only [ne_eq, Bool.and_eq_true, decide_eq_true_eq]; omega)
      have HC := Lib.hid C; clear C hh h1
      go_enter Tryz.func45, Tryz.ntmps45
      go_wp2_with (first | ((with_reducible refine (HC.out _).mono ?_); rintro e w' ⟨rfl, rfl⟩))
      go_ret
      refine ⟨rfl, ?_⟩
      repeat (first | with_reducible exact Below.refl _ _ | with_reducible assumption | with_reducible apply grew_ext | with_reducible apply grew_al | with_reducible apply grew_dn | with_reducible apply grew_d | (with_reducible refine grew_set ?_ (by first | omega | (repeat (first | with_reducible exact Nat.le_refl _ | with_reducible apply le_pl | with_reducible apply le_ext | with_reducible apply le_al))) _))

set_option maxHeartbeats 1000000 in
theorem specPrgOk (a : Option Addr) (n cap : Nat) (ps : List Prc) (w : World) (hr : RdP w a n ps) (hn : n ≤ 9223372036854775807) :
    Calls Tryz.prog 29 #[.agg #[.slice a n cap]] w fun e w' => e = .returned (.bool (prgOkB ps)) ∧ Grew w w' := by
  have HL := Lib.hid hr.len
  have HR := Lib.hid hr; clear hr
  by_cases hh : 1 ≤ n ∧ n ≤ 4
  · obtain ⟨h6, h7⟩ := hh
    have HH : Hid (prgOkB ps = ps.all (fun p => prcOkB p n)) := Lib.hid (by
      have := HL.out
      simp [prgOkB, this, h6, h7])
    have h8 : (1 : Int) ≤ (n : Int) := by omega
    have h9 : (n : Int) ≤ 4 := by omega
    go_enter Tryz.func29, Tryz.ntmps29
    go_wp2_with ((with_reducible refine (l1In _ _ _ _).mono ?_); rintro e w' ⟨rfl, rfl⟩)
    go_loopw [3] (fun i wr => ∃ k : Nat, k ≤ n ∧ i = .int .i64 k ∧ (∃ x, wr = ext (w.alloc (.cells #[.slice a n cap] 30)) x) ∧ ∀ p, p ∈ ps.take k → prcOkB p n = true) (fun i _ => n - (Go.RowKit.intOf i).toNat)
    case atStart => exact ⟨0, Nat.zero_le _, rfl, ext_of (Below.refl _ _), by simp⟩
    case round =>
      obtain ⟨k, hk, rfl, ⟨x, rfl⟩, hall⟩ := hrel
      have HA := Lib.hid hall; clear hall
      have HG : Hid (Grew w (ext (w.alloc (.cells #[.slice a n cap] 30)) x)) := Lib.hid (by repeat (first | with_reducible exact Below.refl _ _ | with_reducible assumption | with_reducible apply grew_ext | with_reducible apply grew_al | with_reducible apply grew_dn | with_reducible apply grew_d | (with_reducible refine grew_set ?_ (by first | omega | (repeat (first | with_reducible exact Nat.le_refl _ | with_reducible apply le_pl | with_reducible apply le_ext | with_reducible apply le_al))) _)))
      by_cases hlt : k < n
      · obtain ⟨b, off, lo, hi, is, ia, ic, rfl, hx, c0, c1, c2, hb, hi1, hi2, hi3⟩ := rdP_at HR.out hlt
        obtain ⟨q0, q1, q2⟩ := lt3 hb
        have HX := Lib.hid hx; clear hx
        have C := fun y => specL3Proc lo hi ia is.length ic is n (ext (w.alloc (.cells #[.slice (some ⟨b, off, none⟩) n cap] 30)) y) (hi1.grew stays_ins (by repeat (first | with_reducible exact Below.refl _ _ | with_reducible assumption | with_reducible apply grew_ext | with_reducible apply grew_al | with_reducible apply grew_dn | with_reducible apply grew_d | (with_reducible refine grew_set ?_ (by first | omega | (repeat (first | with_reducible exact Nat.le_refl _ | with_reducible apply le_pl | with_reducible apply le_ext | with_reducible apply le_al))) _)))) (by unfold maxLen at hi3; omega)
        clear hi1 hi2 hi3
        cases hq : prcOkB ⟨lo, hi, is⟩ n
        · rw [hq] at C
          have HC := Lib.hid C; clear C
          have HQ := Lib.hid hq; clear hq
          go_wp2_with fail
          first | refine wp_region_ext2 (by kernel_rfl) (by kernel_rfl) ?_ | refine wp_region_ext (by kernel_rfl) (by kernel_rfl) ?_
          repeat (go_big_quiet_step ((first | (with_reducible exact ext_grow (HC.out _)))))
          refine wpQuiet_nil ?_
          intro _ hw'
          obtain ⟨y, hw''⟩ := hw'
          subst hw''
          go_wp2
          go_ret
          refine ⟨?_, ?_⟩
          · rw [HH.out]
            have : ps.all (fun p => prcOkB p n) = false := by
              rw [List.all_eq_false]
              exact ⟨_, List.mem_of_getElem? HX.out, by simp [HQ.out]⟩
            rw [this]
            rfl
          · repeat (first | with_reducible exact Below.refl _ _ | with_reducible assumption | with_reducible apply grew_ext | with_reducible apply grew_al | with_reducible apply grew_dn | with_reducible apply grew_d | (with_reducible refine grew_set ?_ (by first | omega | (repeat (first | with_reducible exact Nat.le_refl _ | with_reducible apply le_pl | with_reducible apply le_ext | with_reducible apply le_al))) _))
        · rw [hq] at C
          have HC := Lib.hid C; clear C
          have HQ := Lib.hid hq; clear hq
          go_wp2_with fail
          first | refine wp_region_ext2 (by kernel_rfl) (by kernel_rfl) ?_ | refine wp_region_ext (by kernel_rfl) (by kernel_rfl) ?_
          repeat (go_big_quiet_step ((first | (with_reducible exact ext_grow (HC.out _)))))
          refine wpQuiet_nil ?_
          intro _ hw'
          obtain ⟨y, hw''⟩ := hw'
          subst hw''
          go_wp2
          go_roundw
          case rel =>
            refine ⟨k + 1, by omega, by go_num, ext_of (by repeat (first | with_reducible exact Below.refl _ _ | with_reducible assumption | with_reducible apply grew_ext | with_reducible apply grew_al | with_reducible apply grew_dn | with_reducible apply grew_d | (with_reducible refine grew_set ?_ (by first | omega | (repeat (first | with_reducible exact Nat.le_refl _ | with_reducible apply le_pl | with_reducible apply le_ext | with_reducible apply le_al))) _))), fun p hp => ?_⟩
            rw [take_get HX.out] at hp
            rcases List.mem_append.1 hp with hp | hp
            · exact HA.out p hp
            · obtain rfl := List.mem_singleton.1 hp
              exact HQ.out
          case measure => simp [Go.RowKit.intOf]; omega
      · have hall : ps.all (fun p => prcOkB p n) = true := by
          rw [List.all_eq_true]
          intro p hp
          exact HA.out p (by rw [List.take_of_length_le (by have := HL.out; omega)]; exact hp)
        have HF := Lib.hid hall; clear hall
        go_wp2
        go_ret
        refine ⟨by rw [HH.out, HF.out]; rfl, ?_⟩
        repeat (first | with_reducible exact Below.refl _ _ | with_reducible assumption | with_reducible apply grew_ext | with_reducible apply grew_al | with_reducible apply grew_dn | with_reducible apply grew_d | (with_reducible refine grew_set ?_ (by first | omega | (repeat (first | with_reducible exact Nat.le_refl _ | with_reducible apply le_pl | with_reducible apply le_ext | with_reducible apply le_al))) _))
  · have HF : Hid (prgOkB ps = false) := Lib.hid (by
      have h1 := HL.out
      rw [Bool.eq_false_iff]
      intro h
      simp only [prgOkB, Bool.and_eq_true, decide_eq_true_eq, h1] at h
      exact hh h.1)
    have C := fun w => bool_is (b := false) (l1In n 1 4 w) (by rw [Bool.eq_false_iff]; simp only [ne_eq, Bool.and_eq_true, decide_eq_true_eq]; omega)
    have HC := Lib.hid C; clear C hh
    go_enter Tryz.func29, Tryz.ntmps29
    go_wp2_with ((with_reducible refine (HC.out _).mono ?_); rintro e w' ⟨rfl, rfl⟩)
    go_ret
    refine ⟨by rw [HF.out]; rfl, ?_⟩
    repeat (first | with_reducible exact Below.refl _ _ | with_reducible assumption | with_reducible apply grew_ext | with_reducible apply grew_al | with_reducible apply grew_dn | with_reducible apply grew_d | (with_reducible refine grew_set ?_ (by first | omega | (repeat (first | with_reducible exact Nat.le_refl _ | with_reducible apply le_pl | with_reducible apply le_ext | with_reducible apply le_al))) _))
end Go.Proofs.YtmcfengnihomcaaGreat
