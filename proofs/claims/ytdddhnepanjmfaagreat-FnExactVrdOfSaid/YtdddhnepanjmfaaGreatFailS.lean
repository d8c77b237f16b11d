/- May an instruction fail in a state: the reference's AbsFails. No condition. -/
import Derived.Test.YtdddhnepanjmfaaGreatOr
import Derived.Test.YtdddhnepanjmfaaGreatRegG
import Derived.Test.YtdddhnepanjmfaaGreatRelR
namespace Go.Proofs.YtdddhnepanjmfaaGreat
open Go.RowKit
set_option linter.unusedVariables false
set_option linter.unusedSimpArgs false
attribute [local go_sem] ext_cell ext_frozen ext_lt ext_le ext_le1 lt_s2 lt_s3 lt_s4 lt_s5 lt_s6 ext_lt1 ext_lt2 ext_lt3

theorem specItvNot (rel : Int) (a b : Itv) (w : World) (h : 1 ≤ rel ∧ rel ≤ 4) (ha : itvB a = true) (hb : itvB b = true) :
    Calls Tryz.prog 82 #[.int .i64 rel, a.v, b.v] w fun e w' => e = .returned (relV (notI rel a b)) ∧ Grew w w' := by
  rcases (show rel = 1 ∨ rel = 2 ∨ rel = 3 ∨ rel = 4 from by omega) with rfl | rfl | rfl | rfl
  · exact specItvNot1 a b w ha hb
  · exact specItvNot2 a b w ha hb
  · exact specItvNot3 a b w ha hb
  · exact specItvNot4 a b w ha hb
/-- Do a program, a step and a state fit. -/
def fitB (ps : List Prc) (i : Ins) (on : Bool) (xs : List Itv) (lo hi : Int) : Bool := prgOkB ps && (insOkB i ps.length 10 && (stOkB on xs lo hi && on))
set_option maxHeartbeats 2000000 in
theorem specL7Fit (pa : Option Addr) (pn pc : Nat) (ps : List Prc) (i : Ins) (on : Bool) (xa : Option Addr) (xn xc : Nat) (xs : List Itv) (slo shi : Int) (w : World) (hr : RdP w pa pn ps) (hn : pn ≤ 9223372036854775807) (hx : RdL EItv 2 w xa xn xs) (hxn : xn ≤ 9223372036854775807) :
    Calls Tryz.prog 77 #[.agg #[.slice pa pn pc], i.v, .agg #[.bool on, .slice xa xn xc, .int .i64 slo, .int .i64 shi]] w fun e w' => e = .returned (.bool (fitB ps i on xs slo shi)) ∧ Grew w w' := by
  have HP := Lib.hid (fun W (h : Grew w W) => specPrgOk pa pn pc ps W (hr.grew h) hn)
  have HQ := Lib.hid (fun W => specInsOk i pn 10 W)
  have HR := Lib.hid (fun W (h : Grew w W) => specAbsOk on xa xn xc xs slo shi W (hx.grew staysItv h) hxn)
  rw [fitB, hr.len]
  obtain ⟨p, hp⟩ : ∃ p, prgOkB ps = p := ⟨_, rfl⟩
  obtain ⟨q, hq⟩ : ∃ q, insOkB i pn 10 = q := ⟨_, rfl⟩
  obtain ⟨r, hr2⟩ : ∃ r, stOkB on xs slo shi = r := ⟨_, rfl⟩
  rw [hp] at HP ⊢
  rw [hq] at HQ ⊢
  rw [hr2] at HR ⊢
  clear hr hx hp hq hr2
  obtain ⟨op, d, a, b, rel, lo, hi, to⟩ := i
  cases p
  · go_enter Tryz.func77, Tryz.ntmps77
    go_wp2_with ((with_reducible refine (HP.out _ (gr)).mono ?_); rintro e w' ⟨rfl, g'⟩; (first | obtain ⟨x, rfl⟩ := ext_cold g' | obtain ⟨x, rfl⟩ := ext_col g' | obtain ⟨x, rfl⟩ := ext_of g'); clear g')
    go_ret
    refine ⟨by simp, ?_⟩
    exact gr
  cases q
  · go_enter Tryz.func77, Tryz.ntmps77
    go_wp2_with (first | ((with_reducible refine (HP.out _ (gr)).mono ?_); rintro e w' ⟨rfl, g'⟩; (first | obtain ⟨x, rfl⟩ := ext_cold g' | obtain ⟨x, rfl⟩ := ext_col g' | obtain ⟨x, rfl⟩ := ext_of g'); clear g') | ((with_reducible refine (HQ.out _).mono ?_); rintro e w' ⟨rfl, g'⟩; (first | obtain ⟨y, rfl⟩ := ext_cold g' | obtain ⟨y, rfl⟩ := ext_col g' | obtain ⟨y, rfl⟩ := ext_of g'); clear g'))
    go_ret
    refine ⟨by simp, ?_⟩
    exact gr
  cases r
  all_goals
    go_enter Tryz.func77, Tryz.ntmps77
    go_wp2_with (first | ((with_reducible refine (HP.out _ (gr)).mono ?_); rintro e w' ⟨rfl, g'⟩; (first | obtain ⟨x, rfl⟩ := ext_cold g' | obtain ⟨x, rfl⟩ := ext_col g' | obtain ⟨x, rfl⟩ := ext_of g'); clear g') | ((with_reducible refine (HQ.out _).mono ?_); rintro e w' ⟨rfl, g'⟩; (first | obtain ⟨y, rfl⟩ := ext_cold g' | obtain ⟨y, rfl⟩ := ext_col g' | obtain ⟨y, rfl⟩ := ext_of g'); clear g') | ((with_reducible refine (HR.out _ (gr)).mono ?_); rintro e w' ⟨rfl, g'⟩; (first | obtain ⟨z, rfl⟩ := ext_cold g' | obtain ⟨z, rfl⟩ := ext_col g' | obtain ⟨z, rfl⟩ := ext_of g'); clear g'))
    go_ret
    refine ⟨by simp, ?_⟩
    exact gr
set_option maxHeartbeats 2000000 in
theorem specFailsN (op : Int) (pa : Option Addr) (pn pc : Nat) (ps : List Prc) (d a b rel lo hi to : Int) (on : Bool) (xa : Option Addr) (xn xc : Nat) (xs : List Itv) (slo shi : Int) (w : World) (hr : RdP w pa pn ps) (hn : pn ≤ 9223372036854775807) (hx : RdL EItv 2 w xa xn xs) (hxn : xn ≤ 9223372036854775807) (hfit : fitB ps ⟨op, d, a, b, rel, lo, hi, to⟩ on xs slo shi = false) :
    Calls Tryz.prog 45 #[.agg #[.slice pa pn pc], Ins.v ⟨op, d, a, b, rel, lo, hi, to⟩, .agg #[.bool on, .slice xa xn xc, .int .i64 slo, .int .i64 shi]] w fun e w' => e = .returned (.bool false) ∧ Grew w w' := by
  have HF := Lib.hid (fun W (h : Grew w W) => specL7Fit pa pn pc ps ⟨op, d, a, b, rel, lo, hi, to⟩ on xa xn xc xs slo shi W (hr.grew h) hn (hx.grew staysItv h) hxn)
  rw [hfit] at HF
  clear hr hx hfit
  go_enter Tryz.func45, Tryz.ntmps45
  go_wp2_with fail
  refine (HF.out _ (gr)).mono ?_
  rintro e w1 ⟨rfl, g1⟩
  have hG := show Grew w w1 from grew_tr (gr) g1
  have HG := Lib.hid hG
  clear g1 hG
  go_wp2
  go_ret
  refine ⟨by simp, ?_⟩
  have hg := HG.out
  exact gr
set_option maxRecDepth 100000 in
set_option maxHeartbeats 4000000 in
theorem specFails1 (pa : Option Addr) (pn pc : Nat) (ps : List Prc) (d a b rel lo hi to : Int) (on : Bool) (xa : Option Addr) (xn xc : Nat) (xs : List Itv) (slo shi : Int) (w : World) (hr : RdP w pa pn ps) (hn : pn ≤ 9223372036854775807) (hx : RdL EItv 2 w xa xn xs) (hxn : xn ≤ 9223372036854775807) (hfit : fitB ps ⟨1, d, a, b, rel, lo, hi, to⟩ on xs slo shi = true) :
    Calls Tryz.prog 45 #[.agg #[.slice pa pn pc], Ins.v ⟨1, d, a, b, rel, lo, hi, to⟩, .agg #[.bool on, .slice xa xn xc, .int .i64 slo, .int .i64 shi]] w fun e w' => e = .returned (.bool (false)) ∧ Grew w w' := by
  have HF := Lib.hid (fun W (h : Grew w W) => specL7Fit pa pn pc ps ⟨1, d, a, b, rel, lo, hi, to⟩ on xa xn xc xs slo shi W (hr.grew h) hn (hx.grew staysItv h) hxn)
  rw [hfit] at HF
  clear hr hx hfit
  go_enter Tryz.func45, Tryz.ntmps45
  go_wp2_with fail
  refine (HF.out _ (gr)).mono ?_
  rintro e w1 ⟨rfl, g1⟩
  have hG := show Grew w w1 from grew_tr (gr) g1
  have HG := Lib.hid hG
  have lw : w.heap.size + 1 + 1 + 1 ≤ w1.heap.size := by have := g1.size; simp only [World.size_alloc] at this; omega
  have l0 : w.heap.size < w1.heap.size := by omega
  have l1 : w.heap.size + 1 < w1.heap.size := by omega
  have l2 : w.heap.size + 1 + 1 < w1.heap.size := by omega
  have p0 : w1.cell? ⟨w.heap.size, 0, none⟩ = some (.slice pa pn pc) := (g1.cell (p := ⟨w.heap.size, 0, none⟩) (by simp only [World.size_alloc]; omega)).trans (by simp [go_sem])
  have i0 : w1.cell? ⟨w.heap.size + 1, 0, none⟩ = some (.int .i64 (1 : Int)) := (g1.cell (p := ⟨w.heap.size + 1, 0, none⟩) (by simp only [World.size_alloc]; omega)).trans (by simp [go_sem])
  have i1 : w1.cell? ⟨w.heap.size + 1, 1, none⟩ = some (.int .i64 d) := (g1.cell (p := ⟨w.heap.size + 1, 1, none⟩) (by simp only [World.size_alloc]; omega)).trans (by simp [go_sem])
  have i2 : w1.cell? ⟨w.heap.size + 1, 2, none⟩ = some (.int .i64 a) := (g1.cell (p := ⟨w.heap.size + 1, 2, none⟩) (by simp only [World.size_alloc]; omega)).trans (by simp [go_sem])
  have i3 : w1.cell? ⟨w.heap.size + 1, 3, none⟩ = some (.int .i64 b) := (g1.cell (p := ⟨w.heap.size + 1, 3, none⟩) (by simp only [World.size_alloc]; omega)).trans (by simp [go_sem])
  have i4 : w1.cell? ⟨w.heap.size + 1, 4, none⟩ = some (.int .i64 rel) := (g1.cell (p := ⟨w.heap.size + 1, 4, none⟩) (by simp only [World.size_alloc]; omega)).trans (by simp [go_sem])
  have i5 : w1.cell? ⟨w.heap.size + 1, 5, none⟩ = some (.int .i64 lo) := (g1.cell (p := ⟨w.heap.size + 1, 5, none⟩) (by simp only [World.size_alloc]; omega)).trans (by simp [go_sem])
  have i6 : w1.cell? ⟨w.heap.size + 1, 6, none⟩ = some (.int .i64 hi) := (g1.cell (p := ⟨w.heap.size + 1, 6, none⟩) (by simp only [World.size_alloc]; omega)).trans (by simp [go_sem])
  have i7 : w1.cell? ⟨w.heap.size + 1, 7, none⟩ = some (.int .i64 to) := (g1.cell (p := ⟨w.heap.size + 1, 7, none⟩) (by simp only [World.size_alloc]; omega)).trans (by simp [go_sem])
  have s0 : w1.cell? ⟨w.heap.size + 1 + 1, 0, none⟩ = some (.bool on) := (g1.cell (p := ⟨w.heap.size + 1 + 1, 0, none⟩) (by simp only [World.size_alloc]; omega)).trans (by simp [go_sem])
  have s1 : w1.cell? ⟨w.heap.size + 1 + 1, 1, none⟩ = some (.slice xa xn xc) := (g1.cell (p := ⟨w.heap.size + 1 + 1, 1, none⟩) (by simp only [World.size_alloc]; omega)).trans (by simp [go_sem])
  have s2 : w1.cell? ⟨w.heap.size + 1 + 1, 2, none⟩ = some (.int .i64 slo) := (g1.cell (p := ⟨w.heap.size + 1 + 1, 2, none⟩) (by simp only [World.size_alloc]; omega)).trans (by simp [go_sem])
  have s3 : w1.cell? ⟨w.heap.size + 1 + 1, 3, none⟩ = some (.int .i64 shi) := (g1.cell (p := ⟨w.heap.size + 1 + 1, 3, none⟩) (by simp only [World.size_alloc]; omega)).trans (by simp [go_sem])
  clear g1 hG
  go_wp2
  go_ret
  refine ⟨by simp, ?_⟩
  have hg := HG.out
  exact gr
set_option maxRecDepth 100000 in
set_option maxHeartbeats 4000000 in
theorem specFails2 (pa : Option Addr) (pn pc : Nat) (ps : List Prc) (d a b rel lo hi to : Int) (on : Bool) (xa : Option Addr) (xn xc : Nat) (xs : List Itv) (slo shi : Int) (w : World) (hr : RdP w pa pn ps) (hn : pn ≤ 9223372036854775807) (hx : RdL EItv 2 w xa xn xs) (hxn : xn ≤ 9223372036854775807) (hfit : fitB ps ⟨2, d, a, b, rel, lo, hi, to⟩ on xs slo shi = true) :
    Calls Tryz.prog 45 #[.agg #[.slice pa pn pc], Ins.v ⟨2, d, a, b, rel, lo, hi, to⟩, .agg #[.bool on, .slice xa xn xc, .int .i64 slo, .int .i64 shi]] w fun e w' => e = .returned (.bool (false)) ∧ Grew w w' := by
  have HF := Lib.hid (fun W (h : Grew w W) => specL7Fit pa pn pc ps ⟨2, d, a, b, rel, lo, hi, to⟩ on xa xn xc xs slo shi W (hr.grew h) hn (hx.grew staysItv h) hxn)
  rw [hfit] at HF
  clear hr hx hfit
  go_enter Tryz.func45, Tryz.ntmps45
  go_wp2_with fail
  refine (HF.out _ (gr)).mono ?_
  rintro e w1 ⟨rfl, g1⟩
  have hG := show Grew w w1 from grew_tr (gr) g1
  have HG := Lib.hid hG
  have lw : w.heap.size + 1 + 1 + 1 ≤ w1.heap.size := by have := g1.size; simp only [World.size_alloc] at this; omega
  have l0 : w.heap.size < w1.heap.size := by omega
  have l1 : w.heap.size + 1 < w1.heap.size := by omega
  have l2 : w.heap.size + 1 + 1 < w1.heap.size := by omega
  have p0 : w1.cell? ⟨w.heap.size, 0, none⟩ = some (.slice pa pn pc) := (g1.cell (p := ⟨w.heap.size, 0, none⟩) (by simp only [World.size_alloc]; omega)).trans (by simp [go_sem])
  have i0 : w1.cell? ⟨w.heap.size + 1, 0, none⟩ = some (.int .i64 (2 : Int)) := (g1.cell (p := ⟨w.heap.size + 1, 0, none⟩) (by simp only [World.size_alloc]; omega)).trans (by simp [go_sem])
  have i1 : w1.cell? ⟨w.heap.size + 1, 1, none⟩ = some (.int .i64 d) := (g1.cell (p := ⟨w.heap.size + 1, 1, none⟩) (by simp only [World.size_alloc]; omega)).trans (by simp [go_sem])
  have i2 : w1.cell? ⟨w.heap.size + 1, 2, none⟩ = some (.int .i64 a) := (g1.cell (p := ⟨w.heap.size + 1, 2, none⟩) (by simp only [World.size_alloc]; omega)).trans (by simp [go_sem])
  have i3 : w1.cell? ⟨w.heap.size + 1, 3, none⟩ = some (.int .i64 b) := (g1.cell (p := ⟨w.heap.size + 1, 3, none⟩) (by simp only [World.size_alloc]; omega)).trans (by simp [go_sem])
  have i4 : w1.cell? ⟨w.heap.size + 1, 4, none⟩ = some (.int .i64 rel) := (g1.cell (p := ⟨w.heap.size + 1, 4, none⟩) (by simp only [World.size_alloc]; omega)).trans (by simp [go_sem])
  have i5 : w1.cell? ⟨w.heap.size + 1, 5, none⟩ = some (.int .i64 lo) := (g1.cell (p := ⟨w.heap.size + 1, 5, none⟩) (by simp only [World.size_alloc]; omega)).trans (by simp [go_sem])
  have i6 : w1.cell? ⟨w.heap.size + 1, 6, none⟩ = some (.int .i64 hi) := (g1.cell (p := ⟨w.heap.size + 1, 6, none⟩) (by simp only [World.size_alloc]; omega)).trans (by simp [go_sem])
  have i7 : w1.cell? ⟨w.heap.size + 1, 7, none⟩ = some (.int .i64 to) := (g1.cell (p := ⟨w.heap.size + 1, 7, none⟩) (by simp only [World.size_alloc]; omega)).trans (by simp [go_sem])
  have s0 : w1.cell? ⟨w.heap.size + 1 + 1, 0, none⟩ = some (.bool on) := (g1.cell (p := ⟨w.heap.size + 1 + 1, 0, none⟩) (by simp only [World.size_alloc]; omega)).trans (by simp [go_sem])
  have s1 : w1.cell? ⟨w.heap.size + 1 + 1, 1, none⟩ = some (.slice xa xn xc) := (g1.cell (p := ⟨w.heap.size + 1 + 1, 1, none⟩) (by simp only [World.size_alloc]; omega)).trans (by simp [go_sem])
  have s2 : w1.cell? ⟨w.heap.size + 1 + 1, 2, none⟩ = some (.int .i64 slo) := (g1.cell (p := ⟨w.heap.size + 1 + 1, 2, none⟩) (by simp only [World.size_alloc]; omega)).trans (by simp [go_sem])
  have s3 : w1.cell? ⟨w.heap.size + 1 + 1, 3, none⟩ = some (.int .i64 shi) := (g1.cell (p := ⟨w.heap.size + 1 + 1, 3, none⟩) (by simp only [World.size_alloc]; omega)).trans (by simp [go_sem])
  clear g1 hG
  go_wp2
  go_ret
  refine ⟨by simp, ?_⟩
  have hg := HG.out
  exact gr
set_option maxRecDepth 100000 in
set_option maxHeartbeats 4000000 in
theorem specFails3 (pa : Option Addr) (pn pc : Nat) (ps : List Prc) (d a b rel lo hi to : Int) (on : Bool) (xa : Option Addr) (xn xc : Nat) (xs : List Itv) (slo shi : Int) (w : World) (hr : RdP w pa pn ps) (hn : pn ≤ 9223372036854775807) (hx : RdL EItv 2 w xa xn xs) (hxn : xn ≤ 9223372036854775807) (hfit : fitB ps ⟨3, d, a, b, rel, lo, hi, to⟩ on xs slo shi = true) :
    Calls Tryz.prog 45 #[.agg #[.slice pa pn pc], Ins.v ⟨3, d, a, b, rel, lo, hi, to⟩, .agg #[.bool on, .slice xa xn xc, .int .i64 slo, .int .i64 shi]] w fun e w' => e = .returned (.bool (false)) ∧ Grew w w' := by
  have HF := Lib.hid (fun W (h : Grew w W) => specL7Fit pa pn pc ps ⟨3, d, a, b, rel, lo, hi, to⟩ on xa xn xc xs slo shi W (hr.grew h) hn (hx.grew staysItv h) hxn)
  rw [hfit] at HF
  clear hr hx hfit
  go_enter Tryz.func45, Tryz.ntmps45
  go_wp2_with fail
  refine (HF.out _ (gr)).mono ?_
  rintro e w1 ⟨rfl, g1⟩
  have hG := show Grew w w1 from grew_tr (gr) g1
  have HG := Lib.hid hG
  have lw : w.heap.size + 1 + 1 + 1 ≤ w1.heap.size := by have := g1.size; simp only [World.size_alloc] at this; omega
  have l0 : w.heap.size < w1.heap.size := by omega
  have l1 : w.heap.size + 1 < w1.heap.size := by omega
  have l2 : w.heap.size + 1 + 1 < w1.heap.size := by omega
  have p0 : w1.cell? ⟨w.heap.size, 0, none⟩ = some (.slice pa pn pc) := (g1.cell (p := ⟨w.heap.size, 0, none⟩) (by simp only [World.size_alloc]; omega)).trans (by simp [go_sem])
  have i0 : w1.cell? ⟨w.heap.size + 1, 0, none⟩ = some (.int .i64 (3 : Int)) := (g1.cell (p := ⟨w.heap.size + 1, 0, none⟩) (by simp only [World.size_alloc]; omega)).trans (by simp [go_sem])
  have i1 : w1.cell? ⟨w.heap.size + 1, 1, none⟩ = some (.int .i64 d) := (g1.cell (p := ⟨w.heap.size + 1, 1, none⟩) (by simp only [World.size_alloc]; omega)).trans (by simp [go_sem])
  have i2 : w1.cell? ⟨w.heap.size + 1, 2, none⟩ = some (.int .i64 a) := (g1.cell (p := ⟨w.heap.size + 1, 2, none⟩) (by simp only [World.size_alloc]; omega)).trans (by simp [go_sem])
  have i3 : w1.cell? ⟨w.heap.size + 1, 3, none⟩ = some (.int .i64 b) := (g1.cell (p := ⟨w.heap.size + 1, 3, none⟩) (by simp only [World.size_alloc]; omega)).trans (by simp [go_sem])
  have i4 : w1.cell? ⟨w.heap.size + 1, 4, none⟩ = some (.int .i64 rel) := (g1.cell (p := ⟨w.heap.size + 1, 4, none⟩) (by simp only [World.size_alloc]; omega)).trans (by simp [go_sem])
  have i5 : w1.cell? ⟨w.heap.size + 1, 5, none⟩ = some (.int .i64 lo) := (g1.cell (p := ⟨w.heap.size + 1, 5, none⟩) (by simp only [World.size_alloc]; omega)).trans (by simp [go_sem])
  have i6 : w1.cell? ⟨w.heap.size + 1, 6, none⟩ = some (.int .i64 hi) := (g1.cell (p := ⟨w.heap.size + 1, 6, none⟩) (by simp only [World.size_alloc]; omega)).trans (by simp [go_sem])
  have i7 : w1.cell? ⟨w.heap.size + 1, 7, none⟩ = some (.int .i64 to) := (g1.cell (p := ⟨w.heap.size + 1, 7, none⟩) (by simp only [World.size_alloc]; omega)).trans (by simp [go_sem])
  have s0 : w1.cell? ⟨w.heap.size + 1 + 1, 0, none⟩ = some (.bool on) := (g1.cell (p := ⟨w.heap.size + 1 + 1, 0, none⟩) (by simp only [World.size_alloc]; omega)).trans (by simp [go_sem])
  have s1 : w1.cell? ⟨w.heap.size + 1 + 1, 1, none⟩ = some (.slice xa xn xc) := (g1.cell (p := ⟨w.heap.size + 1 + 1, 1, none⟩) (by simp only [World.size_alloc]; omega)).trans (by simp [go_sem])
  have s2 : w1.cell? ⟨w.heap.size + 1 + 1, 2, none⟩ = some (.int .i64 slo) := (g1.cell (p := ⟨w.heap.size + 1 + 1, 2, none⟩) (by simp only [World.size_alloc]; omega)).trans (by simp [go_sem])
  have s3 : w1.cell? ⟨w.heap.size + 1 + 1, 3, none⟩ = some (.int .i64 shi) := (g1.cell (p := ⟨w.heap.size + 1 + 1, 3, none⟩) (by simp only [World.size_alloc]; omega)).trans (by simp [go_sem])
  clear g1 hG
  go_wp2
  go_ret
  refine ⟨by simp, ?_⟩
  have hg := HG.out
  exact gr
set_option maxRecDepth 100000 in
set_option maxHeartbeats 4000000 in
theorem specFails5 (pa : Option Addr) (pn pc : Nat) (ps : List Prc) (d a b rel lo hi to : Int) (on : Bool) (xa : Option Addr) (xn xc : Nat) (xs : List Itv) (slo shi : Int) (w : World) (hr : RdP w pa pn ps) (hn : pn ≤ 9223372036854775807) (hx : RdL EItv 2 w xa xn xs) (hxn : xn ≤ 9223372036854775807) (hfit : fitB ps ⟨5, d, a, b, rel, lo, hi, to⟩ on xs slo shi = true) :
    Calls Tryz.prog 45 #[.agg #[.slice pa pn pc], Ins.v ⟨5, d, a, b, rel, lo, hi, to⟩, .agg #[.bool on, .slice xa xn xc, .int .i64 slo, .int .i64 shi]] w fun e w' => e = .returned (.bool (false)) ∧ Grew w w' := by
  have HF := Lib.hid (fun W (h : Grew w W) => specL7Fit pa pn pc ps ⟨5, d, a, b, rel, lo, hi, to⟩ on xa xn xc xs slo shi W (hr.grew h) hn (hx.grew staysItv h) hxn)
  rw [hfit] at HF
  clear hr hx hfit
  go_enter Tryz.func45, Tryz.ntmps45
  go_wp2_with fail
  refine (HF.out _ (gr)).mono ?_
  rintro e w1 ⟨rfl, g1⟩
  have hG := show Grew w w1 from grew_tr (gr) g1
  have HG := Lib.hid hG
  have lw : w.heap.size + 1 + 1 + 1 ≤ w1.heap.size := by have := g1.size; simp only [World.size_alloc] at this; omega
  have l0 : w.heap.size < w1.heap.size := by omega
  have l1 : w.heap.size + 1 < w1.heap.size := by omega
  have l2 : w.heap.size + 1 + 1 < w1.heap.size := by omega
  have p0 : w1.cell? ⟨w.heap.size, 0, none⟩ = some (.slice pa pn pc) := (g1.cell (p := ⟨w.heap.size, 0, none⟩) (by simp only [World.size_alloc]; omega)).trans (by simp [go_sem])
  have i0 : w1.cell? ⟨w.heap.size + 1, 0, none⟩ = some (.int .i64 (5 : Int)) := (g1.cell (p := ⟨w.heap.size + 1, 0, none⟩) (by simp only [World.size_alloc]; omega)).trans (by simp [go_sem])
  have i1 : w1.cell? ⟨w.heap.size + 1, 1, none⟩ = some (.int .i64 d) := (g1.cell (p := ⟨w.heap.size + 1, 1, none⟩) (by simp only [World.size_alloc]; omega)).trans (by simp [go_sem])
  have i2 : w1.cell? ⟨w.heap.size + 1, 2, none⟩ = some (.int .i64 a) := (g1.cell (p := ⟨w.heap.size + 1, 2, none⟩) (by simp only [World.size_alloc]; omega)).trans (by simp [go_sem])
  have i3 : w1.cell? ⟨w.heap.size + 1, 3, none⟩ = some (.int .i64 b) := (g1.cell (p := ⟨w.heap.size + 1, 3, none⟩) (by simp only [World.size_alloc]; omega)).trans (by simp [go_sem])
  have i4 : w1.cell? ⟨w.heap.size + 1, 4, none⟩ = some (.int .i64 rel) := (g1.cell (p := ⟨w.heap.size + 1, 4, none⟩) (by simp only [World.size_alloc]; omega)).trans (by simp [go_sem])
  have i5 : w1.cell? ⟨w.heap.size + 1, 5, none⟩ = some (.int .i64 lo) := (g1.cell (p := ⟨w.heap.size + 1, 5, none⟩) (by simp only [World.size_alloc]; omega)).trans (by simp [go_sem])
  have i6 : w1.cell? ⟨w.heap.size + 1, 6, none⟩ = some (.int .i64 hi) := (g1.cell (p := ⟨w.heap.size + 1, 6, none⟩) (by simp only [World.size_alloc]; omega)).trans (by simp [go_sem])
  have i7 : w1.cell? ⟨w.heap.size + 1, 7, none⟩ = some (.int .i64 to) := (g1.cell (p := ⟨w.heap.size + 1, 7, none⟩) (by simp only [World.size_alloc]; omega)).trans (by simp [go_sem])
  have s0 : w1.cell? ⟨w.heap.size + 1 + 1, 0, none⟩ = some (.bool on) := (g1.cell (p := ⟨w.heap.size + 1 + 1, 0, none⟩) (by simp only [World.size_alloc]; omega)).trans (by simp [go_sem])
  have s1 : w1.cell? ⟨w.heap.size + 1 + 1, 1, none⟩ = some (.slice xa xn xc) := (g1.cell (p := ⟨w.heap.size + 1 + 1, 1, none⟩) (by simp only [World.size_alloc]; omega)).trans (by simp [go_sem])
  have s2 : w1.cell? ⟨w.heap.size + 1 + 1, 2, none⟩ = some (.int .i64 slo) := (g1.cell (p := ⟨w.heap.size + 1 + 1, 2, none⟩) (by simp only [World.size_alloc]; omega)).trans (by simp [go_sem])
  have s3 : w1.cell? ⟨w.heap.size + 1 + 1, 3, none⟩ = some (.int .i64 shi) := (g1.cell (p := ⟨w.heap.size + 1 + 1, 3, none⟩) (by simp only [World.size_alloc]; omega)).trans (by simp [go_sem])
  clear g1 hG
  go_wp2
  go_ret
  refine ⟨by simp, ?_⟩
  have hg := HG.out
  exact gr
set_option maxRecDepth 100000 in
set_option maxHeartbeats 4000000 in
theorem specFails8 (pa : Option Addr) (pn pc : Nat) (ps : List Prc) (d a b rel lo hi to : Int) (on : Bool) (xa : Option Addr) (xn xc : Nat) (xs : List Itv) (slo shi : Int) (w : World) (hr : RdP w pa pn ps) (hn : pn ≤ 9223372036854775807) (hx : RdL EItv 2 w xa xn xs) (hxn : xn ≤ 9223372036854775807) (hfit : fitB ps ⟨8, d, a, b, rel, lo, hi, to⟩ on xs slo shi = true) :
    Calls Tryz.prog 45 #[.agg #[.slice pa pn pc], Ins.v ⟨8, d, a, b, rel, lo, hi, to⟩, .agg #[.bool on, .slice xa xn xc, .int .i64 slo, .int .i64 shi]] w fun e w' => e = .returned (.bool (false)) ∧ Grew w w' := by
  have HF := Lib.hid (fun W (h : Grew w W) => specL7Fit pa pn pc ps ⟨8, d, a, b, rel, lo, hi, to⟩ on xa xn xc xs slo shi W (hr.grew h) hn (hx.grew staysItv h) hxn)
  rw [hfit] at HF
  clear hr hx hfit
  go_enter Tryz.func45, Tryz.ntmps45
  go_wp2_with fail
  refine (HF.out _ (gr)).mono ?_
  rintro e w1 ⟨rfl, g1⟩
  have hG := show Grew w w1 from grew_tr (gr) g1
  have HG := Lib.hid hG
  have lw : w.heap.size + 1 + 1 + 1 ≤ w1.heap.size := by have := g1.size; simp only [World.size_alloc] at this; omega
  have l0 : w.heap.size < w1.heap.size := by omega
  have l1 : w.heap.size + 1 < w1.heap.size := by omega
  have l2 : w.heap.size + 1 + 1 < w1.heap.size := by omega
  have p0 : w1.cell? ⟨w.heap.size, 0, none⟩ = some (.slice pa pn pc) := (g1.cell (p := ⟨w.heap.size, 0, none⟩) (by simp only [World.size_alloc]; omega)).trans (by simp [go_sem])
  have i0 : w1.cell? ⟨w.heap.size + 1, 0, none⟩ = some (.int .i64 (8 : Int)) := (g1.cell (p := ⟨w.heap.size + 1, 0, none⟩) (by simp only [World.size_alloc]; omega)).trans (by simp [go_sem])
  have i1 : w1.cell? ⟨w.heap.size + 1, 1, none⟩ = some (.int .i64 d) := (g1.cell (p := ⟨w.heap.size + 1, 1, none⟩) (by simp only [World.size_alloc]; omega)).trans (by simp [go_sem])
  have i2 : w1.cell? ⟨w.heap.size + 1, 2, none⟩ = some (.int .i64 a) := (g1.cell (p := ⟨w.heap.size + 1, 2, none⟩) (by simp only [World.size_alloc]; omega)).trans (by simp [go_sem])
  have i3 : w1.cell? ⟨w.heap.size + 1, 3, none⟩ = some (.int .i64 b) := (g1.cell (p := ⟨w.heap.size + 1, 3, none⟩) (by simp only [World.size_alloc]; omega)).trans (by simp [go_sem])
  have i4 : w1.cell? ⟨w.heap.size + 1, 4, none⟩ = some (.int .i64 rel) := (g1.cell (p := ⟨w.heap.size + 1, 4, none⟩) (by simp only [World.size_alloc]; omega)).trans (by simp [go_sem])
  have i5 : w1.cell? ⟨w.heap.size + 1, 5, none⟩ = some (.int .i64 lo) := (g1.cell (p := ⟨w.heap.size + 1, 5, none⟩) (by simp only [World.size_alloc]; omega)).trans (by simp [go_sem])
  have i6 : w1.cell? ⟨w.heap.size + 1, 6, none⟩ = some (.int .i64 hi) := (g1.cell (p := ⟨w.heap.size + 1, 6, none⟩) (by simp only [World.size_alloc]; omega)).trans (by simp [go_sem])
  have i7 : w1.cell? ⟨w.heap.size + 1, 7, none⟩ = some (.int .i64 to) := (g1.cell (p := ⟨w.heap.size + 1, 7, none⟩) (by simp only [World.size_alloc]; omega)).trans (by simp [go_sem])
  have s0 : w1.cell? ⟨w.heap.size + 1 + 1, 0, none⟩ = some (.bool on) := (g1.cell (p := ⟨w.heap.size + 1 + 1, 0, none⟩) (by simp only [World.size_alloc]; omega)).trans (by simp [go_sem])
  have s1 : w1.cell? ⟨w.heap.size + 1 + 1, 1, none⟩ = some (.slice xa xn xc) := (g1.cell (p := ⟨w.heap.size + 1 + 1, 1, none⟩) (by simp only [World.size_alloc]; omega)).trans (by simp [go_sem])
  have s2 : w1.cell? ⟨w.heap.size + 1 + 1, 2, none⟩ = some (.int .i64 slo) := (g1.cell (p := ⟨w.heap.size + 1 + 1, 2, none⟩) (by simp only [World.size_alloc]; omega)).trans (by simp [go_sem])
  have s3 : w1.cell? ⟨w.heap.size + 1 + 1, 3, none⟩ = some (.int .i64 shi) := (g1.cell (p := ⟨w.heap.size + 1 + 1, 3, none⟩) (by simp only [World.size_alloc]; omega)).trans (by simp [go_sem])
  clear g1 hG
  go_wp2
  go_ret
  refine ⟨by simp, ?_⟩
  have hg := HG.out
  exact gr
set_option maxRecDepth 100000 in
set_option maxHeartbeats 4000000 in
theorem specFails9 (pa : Option Addr) (pn pc : Nat) (ps : List Prc) (d a b rel lo hi to : Int) (on : Bool) (xa : Option Addr) (xn xc : Nat) (xs : List Itv) (slo shi : Int) (w : World) (hr : RdP w pa pn ps) (hn : pn ≤ 9223372036854775807) (hx : RdL EItv 2 w xa xn xs) (hxn : xn ≤ 9223372036854775807) (hfit : fitB ps ⟨9, d, a, b, rel, lo, hi, to⟩ on xs slo shi = true) :
    Calls Tryz.prog 45 #[.agg #[.slice pa pn pc], Ins.v ⟨9, d, a, b, rel, lo, hi, to⟩, .agg #[.bool on, .slice xa xn xc, .int .i64 slo, .int .i64 shi]] w fun e w' => e = .returned (.bool (false)) ∧ Grew w w' := by
  have HF := Lib.hid (fun W (h : Grew w W) => specL7Fit pa pn pc ps ⟨9, d, a, b, rel, lo, hi, to⟩ on xa xn xc xs slo shi W (hr.grew h) hn (hx.grew staysItv h) hxn)
  rw [hfit] at HF
  clear hr hx hfit
  go_enter Tryz.func45, Tryz.ntmps45
  go_wp2_with fail
  refine (HF.out _ (gr)).mono ?_
  rintro e w1 ⟨rfl, g1⟩
  have hG := show Grew w w1 from grew_tr (gr) g1
  have HG := Lib.hid hG
  have lw : w.heap.size + 1 + 1 + 1 ≤ w1.heap.size := by have := g1.size; simp only [World.size_alloc] at this; omega
  have l0 : w.heap.size < w1.heap.size := by omega
  have l1 : w.heap.size + 1 < w1.heap.size := by omega
  have l2 : w.heap.size + 1 + 1 < w1.heap.size := by omega
  have p0 : w1.cell? ⟨w.heap.size, 0, none⟩ = some (.slice pa pn pc) := (g1.cell (p := ⟨w.heap.size, 0, none⟩) (by simp only [World.size_alloc]; omega)).trans (by simp [go_sem])
  have i0 : w1.cell? ⟨w.heap.size + 1, 0, none⟩ = some (.int .i64 (9 : Int)) := (g1.cell (p := ⟨w.heap.size + 1, 0, none⟩) (by simp only [World.size_alloc]; omega)).trans (by simp [go_sem])
  have i1 : w1.cell? ⟨w.heap.size + 1, 1, none⟩ = some (.int .i64 d) := (g1.cell (p := ⟨w.heap.size + 1, 1, none⟩) (by simp only [World.size_alloc]; omega)).trans (by simp [go_sem])
  have i2 : w1.cell? ⟨w.heap.size + 1, 2, none⟩ = some (.int .i64 a) := (g1.cell (p := ⟨w.heap.size + 1, 2, none⟩) (by simp only [World.size_alloc]; omega)).trans (by simp [go_sem])
  have i3 : w1.cell? ⟨w.heap.size + 1, 3, none⟩ = some (.int .i64 b) := (g1.cell (p := ⟨w.heap.size + 1, 3, none⟩) (by simp only [World.size_alloc]; omega)).trans (by simp [go_sem])
  have i4 : w1.cell? ⟨w.heap.size + 1, 4, none⟩ = some (.int .i64 rel) := (g1.cell (p := ⟨w.heap.size + 1, 4, none⟩) (by simp only [World.size_alloc]; omega)).trans (by simp [go_sem])
  have i5 : w1.cell? ⟨w.heap.size + 1, 5, none⟩ = some (.int .i64 lo) := (g1.cell (p := ⟨w.heap.size + 1, 5, none⟩) (by simp only [World.size_alloc]; omega)).trans (by simp [go_sem])
  have i6 : w1.cell? ⟨w.heap.size + 1, 6, none⟩ = some (.int .i64 hi) := (g1.cell (p := ⟨w.heap.size + 1, 6, none⟩) (by simp only [World.size_alloc]; omega)).trans (by simp [go_sem])
  have i7 : w1.cell? ⟨w.heap.size + 1, 7, none⟩ = some (.int .i64 to) := (g1.cell (p := ⟨w.heap.size + 1, 7, none⟩) (by simp only [World.size_alloc]; omega)).trans (by simp [go_sem])
  have s0 : w1.cell? ⟨w.heap.size + 1 + 1, 0, none⟩ = some (.bool on) := (g1.cell (p := ⟨w.heap.size + 1 + 1, 0, none⟩) (by simp only [World.size_alloc]; omega)).trans (by simp [go_sem])
  have s1 : w1.cell? ⟨w.heap.size + 1 + 1, 1, none⟩ = some (.slice xa xn xc) := (g1.cell (p := ⟨w.heap.size + 1 + 1, 1, none⟩) (by simp only [World.size_alloc]; omega)).trans (by simp [go_sem])
  have s2 : w1.cell? ⟨w.heap.size + 1 + 1, 2, none⟩ = some (.int .i64 slo) := (g1.cell (p := ⟨w.heap.size + 1 + 1, 2, none⟩) (by simp only [World.size_alloc]; omega)).trans (by simp [go_sem])
  have s3 : w1.cell? ⟨w.heap.size + 1 + 1, 3, none⟩ = some (.int .i64 shi) := (g1.cell (p := ⟨w.heap.size + 1 + 1, 3, none⟩) (by simp only [World.size_alloc]; omega)).trans (by simp [go_sem])
  clear g1 hG
  go_wp2
  go_ret
  refine ⟨by simp, ?_⟩
  have hg := HG.out
  exact gr
set_option maxRecDepth 100000 in
set_option maxHeartbeats 4000000 in
theorem specFails12 (pa : Option Addr) (pn pc : Nat) (ps : List Prc) (d a b rel lo hi to : Int) (on : Bool) (xa : Option Addr) (xn xc : Nat) (xs : List Itv) (slo shi : Int) (w : World) (hr : RdP w pa pn ps) (hn : pn ≤ 9223372036854775807) (hx : RdL EItv 2 w xa xn xs) (hxn : xn ≤ 9223372036854775807) (hfit : fitB ps ⟨12, d, a, b, rel, lo, hi, to⟩ on xs slo shi = true) :
    Calls Tryz.prog 45 #[.agg #[.slice pa pn pc], Ins.v ⟨12, d, a, b, rel, lo, hi, to⟩, .agg #[.bool on, .slice xa xn xc, .int .i64 slo, .int .i64 shi]] w fun e w' => e = .returned (.bool (false)) ∧ Grew w w' := by
  have HF := Lib.hid (fun W (h : Grew w W) => specL7Fit pa pn pc ps ⟨12, d, a, b, rel, lo, hi, to⟩ on xa xn xc xs slo shi W (hr.grew h) hn (hx.grew staysItv h) hxn)
  rw [hfit] at HF
  clear hr hx hfit
  go_enter Tryz.func45, Tryz.ntmps45
  go_wp2_with fail
  refine (HF.out _ (gr)).mono ?_
  rintro e w1 ⟨rfl, g1⟩
  have hG := show Grew w w1 from grew_tr (gr) g1
  have HG := Lib.hid hG
  have lw : w.heap.size + 1 + 1 + 1 ≤ w1.heap.size := by have := g1.size; simp only [World.size_alloc] at this; omega
  have l0 : w.heap.size < w1.heap.size := by omega
  have l1 : w.heap.size + 1 < w1.heap.size := by omega
  have l2 : w.heap.size + 1 + 1 < w1.heap.size := by omega
  have p0 : w1.cell? ⟨w.heap.size, 0, none⟩ = some (.slice pa pn pc) := (g1.cell (p := ⟨w.heap.size, 0, none⟩) (by simp only [World.size_alloc]; omega)).trans (by simp [go_sem])
  have i0 : w1.cell? ⟨w.heap.size + 1, 0, none⟩ = some (.int .i64 (12 : Int)) := (g1.cell (p := ⟨w.heap.size + 1, 0, none⟩) (by simp only [World.size_alloc]; omega)).trans (by simp [go_sem])
  have i1 : w1.cell? ⟨w.heap.size + 1, 1, none⟩ = some (.int .i64 d) := (g1.cell (p := ⟨w.heap.size + 1, 1, none⟩) (by simp only [World.size_alloc]; omega)).trans (by simp [go_sem])
  have i2 : w1.cell? ⟨w.heap.size + 1, 2, none⟩ = some (.int .i64 a) := (g1.cell (p := ⟨w.heap.size + 1, 2, none⟩) (by simp only [World.size_alloc]; omega)).trans (by simp [go_sem])
  have i3 : w1.cell? ⟨w.heap.size + 1, 3, none⟩ = some (.int .i64 b) := (g1.cell (p := ⟨w.heap.size + 1, 3, none⟩) (by simp only [World.size_alloc]; omega)).trans (by simp [go_sem])
  have i4 : w1.cell? ⟨w.heap.size + 1, 4, none⟩ = some (.int .i64 rel) := (g1.cell (p := ⟨w.heap.size + 1, 4, none⟩) (by simp only [World.size_alloc]; omega)).trans (by simp [go_sem])
  have i5 : w1.cell? ⟨w.heap.size + 1, 5, none⟩ = some (.int .i64 lo) := (g1.cell (p := ⟨w.heap.size + 1, 5, none⟩) (by simp only [World.size_alloc]; omega)).trans (by simp [go_sem])
  have i6 : w1.cell? ⟨w.heap.size + 1, 6, none⟩ = some (.int .i64 hi) := (g1.cell (p := ⟨w.heap.size + 1, 6, none⟩) (by simp only [World.size_alloc]; omega)).trans (by simp [go_sem])
  have i7 : w1.cell? ⟨w.heap.size + 1, 7, none⟩ = some (.int .i64 to) := (g1.cell (p := ⟨w.heap.size + 1, 7, none⟩) (by simp only [World.size_alloc]; omega)).trans (by simp [go_sem])
  have s0 : w1.cell? ⟨w.heap.size + 1 + 1, 0, none⟩ = some (.bool on) := (g1.cell (p := ⟨w.heap.size + 1 + 1, 0, none⟩) (by simp only [World.size_alloc]; omega)).trans (by simp [go_sem])
  have s1 : w1.cell? ⟨w.heap.size + 1 + 1, 1, none⟩ = some (.slice xa xn xc) := (g1.cell (p := ⟨w.heap.size + 1 + 1, 1, none⟩) (by simp only [World.size_alloc]; omega)).trans (by simp [go_sem])
  have s2 : w1.cell? ⟨w.heap.size + 1 + 1, 2, none⟩ = some (.int .i64 slo) := (g1.cell (p := ⟨w.heap.size + 1 + 1, 2, none⟩) (by simp only [World.size_alloc]; omega)).trans (by simp [go_sem])
  have s3 : w1.cell? ⟨w.heap.size + 1 + 1, 3, none⟩ = some (.int .i64 shi) := (g1.cell (p := ⟨w.heap.size + 1 + 1, 3, none⟩) (by simp only [World.size_alloc]; omega)).trans (by simp [go_sem])
  clear g1 hG
  go_wp2
  go_ret
  refine ⟨by simp, ?_⟩
  have hg := HG.out
  exact gr
set_option maxRecDepth 100000 in
set_option maxHeartbeats 4000000 in
theorem specFails4 (pa : Option Addr) (pn pc : Nat) (ps : List Prc) (d a b rel lo hi to : Int) (on : Bool) (xa : Option Addr) (xn xc : Nat) (xs : List Itv) (slo shi : Int) (w : World) (hr : RdP w pa pn ps) (hn : pn ≤ 9223372036854775807) (hx : RdL EItv 2 w xa xn xs) (hxn : xn ≤ 9223372036854775807) (hfit : fitB ps ⟨4, d, a, b, rel, lo, hi, to⟩ on xs slo shi = true) :
    Calls Tryz.prog 45 #[.agg #[.slice pa pn pc], Ins.v ⟨4, d, a, b, rel, lo, hi, to⟩, .agg #[.bool on, .slice xa xn xc, .int .i64 slo, .int .i64 shi]] w fun e w' => e = .returned (.bool (inB (nthI xs b).lo (nthI xs b).hi 0)) ∧ Grew w w' := by
  have HF := Lib.hid (fun W (h : Grew w W) => specL7Fit pa pn pc ps ⟨4, d, a, b, rel, lo, hi, to⟩ on xa xn xc xs slo shi W (hr.grew h) hn (hx.grew staysItv h) hxn)
  rw [hfit] at HF
  have hff := hfit
  simp only [fitB, Bool.and_eq_true] at hff
  obtain ⟨hpok, hiok, hsok, rfl⟩ := hff
  clear hfit
  have h4 : xs.length = 4 := by obtain ⟨_, x0, x1, x2, x3, rfl, _⟩ := st_four hsok; rfl
  have hxn4 : xn = 4 := by rw [← hx.len]; exact h4
  subst hxn4
  have hiok2 := hiok
  simp only [insOkB, headB, Bool.and_eq_true] at hiok2
  obtain ⟨⟨_, _, hD, hA, hB⟩, hT⟩ := hiok2
  have bo := nthI_ok hsok hB
  obtain ⟨bj, heb, hjb, hxb⟩ := nthI_get h4 hB
  obtain ⟨⟨bl, bh⟩, hXb⟩ : ∃ x, nthI xs b = x := ⟨_, rfl⟩
  rw [hXb] at bo hxb ⊢
  subst heb
  have hn4 : (4 : Nat) ≤ 9223372036854775807 := by omega
  obtain ⟨qb, offb, lb, ub, hbb, hyb, bc0, bc1, bb⟩ := rdItv_at hx hjb
  rw [hyb] at hxb
  cases hxb
  subst hbb
  have HI := Lib.hid (fun W => specItvHas bl bh 0 W)
  rw [show itvOkB bl bh = true from bo, Bool.true_and] at HI
  simp only
  obtain ⟨B, hBB⟩ : ∃ B, inB bl bh 0 = B := ⟨_, rfl⟩
  rw [hBB] at HI ⊢
  clear hBB
  have hxx := hx
  go_enter Tryz.func45, Tryz.ntmps45
  go_wp2_with fail
  refine (HF.out _ (gr)).mono ?_
  rintro e w1 ⟨rfl, g1⟩
  have hG := show Grew w w1 from grew_tr (gr) g1
  have HG := Lib.hid hG
  have lw : w.heap.size + 1 + 1 + 1 ≤ w1.heap.size := by have := g1.size; simp only [World.size_alloc] at this; omega
  have l0 : w.heap.size < w1.heap.size := by omega
  have l1 : w.heap.size + 1 < w1.heap.size := by omega
  have l2 : w.heap.size + 1 + 1 < w1.heap.size := by omega
  have p0 : w1.cell? ⟨w.heap.size, 0, none⟩ = some (.slice pa pn pc) := (g1.cell (p := ⟨w.heap.size, 0, none⟩) (by simp only [World.size_alloc]; omega)).trans (by simp [go_sem])
  have i0 : w1.cell? ⟨w.heap.size + 1, 0, none⟩ = some (.int .i64 (4 : Int)) := (g1.cell (p := ⟨w.heap.size + 1, 0, none⟩) (by simp only [World.size_alloc]; omega)).trans (by simp [go_sem])
  have i1 : w1.cell? ⟨w.heap.size + 1, 1, none⟩ = some (.int .i64 d) := (g1.cell (p := ⟨w.heap.size + 1, 1, none⟩) (by simp only [World.size_alloc]; omega)).trans (by simp [go_sem])
  have i2 : w1.cell? ⟨w.heap.size + 1, 2, none⟩ = some (.int .i64 a) := (g1.cell (p := ⟨w.heap.size + 1, 2, none⟩) (by simp only [World.size_alloc]; omega)).trans (by simp [go_sem])
  have i3 : w1.cell? ⟨w.heap.size + 1, 3, none⟩ = some (.int .i64 (bj : Int)) := (g1.cell (p := ⟨w.heap.size + 1, 3, none⟩) (by simp only [World.size_alloc]; omega)).trans (by simp [go_sem])
  have i4 : w1.cell? ⟨w.heap.size + 1, 4, none⟩ = some (.int .i64 rel) := (g1.cell (p := ⟨w.heap.size + 1, 4, none⟩) (by simp only [World.size_alloc]; omega)).trans (by simp [go_sem])
  have i5 : w1.cell? ⟨w.heap.size + 1, 5, none⟩ = some (.int .i64 lo) := (g1.cell (p := ⟨w.heap.size + 1, 5, none⟩) (by simp only [World.size_alloc]; omega)).trans (by simp [go_sem])
  have i6 : w1.cell? ⟨w.heap.size + 1, 6, none⟩ = some (.int .i64 hi) := (g1.cell (p := ⟨w.heap.size + 1, 6, none⟩) (by simp only [World.size_alloc]; omega)).trans (by simp [go_sem])
  have i7 : w1.cell? ⟨w.heap.size + 1, 7, none⟩ = some (.int .i64 to) := (g1.cell (p := ⟨w.heap.size + 1, 7, none⟩) (by simp only [World.size_alloc]; omega)).trans (by simp [go_sem])
  have s0 : w1.cell? ⟨w.heap.size + 1 + 1, 0, none⟩ = some (.bool true) := (g1.cell (p := ⟨w.heap.size + 1 + 1, 0, none⟩) (by simp only [World.size_alloc]; omega)).trans (by simp [go_sem])
  have s1 : w1.cell? ⟨w.heap.size + 1 + 1, 1, none⟩ = some (.slice (some ⟨qb, offb, none⟩) 4 xc) := (g1.cell (p := ⟨w.heap.size + 1 + 1, 1, none⟩) (by simp only [World.size_alloc]; omega)).trans (by simp [go_sem])
  have s2 : w1.cell? ⟨w.heap.size + 1 + 1, 2, none⟩ = some (.int .i64 slo) := (g1.cell (p := ⟨w.heap.size + 1 + 1, 2, none⟩) (by simp only [World.size_alloc]; omega)).trans (by simp [go_sem])
  have s3 : w1.cell? ⟨w.heap.size + 1 + 1, 3, none⟩ = some (.int .i64 shi) := (g1.cell (p := ⟨w.heap.size + 1 + 1, 3, none⟩) (by simp only [World.size_alloc]; omega)).trans (by simp [go_sem])
  have b0 := (hG.cell (p := ⟨qb, offb + bj * 2, none⟩) bb).trans bc0
  have b1 := (hG.cell (p := ⟨qb, offb + bj * 2 + 1, none⟩) bb).trans bc1
  have lb := Nat.lt_of_lt_of_le bb hG.size
  clear g1 hG hr hx hxx hpok hiok hsok hT hXb bo hyb bc0 bc1 bb
  go_wp2_with ((with_reducible refine (HI.out _).mono ?_); rintro e w' ⟨rfl, g'⟩; (first | obtain ⟨u, rfl⟩ := ext_cold g' | obtain ⟨u, rfl⟩ := ext_col g' | obtain ⟨u, rfl⟩ := ext_of g'); clear g')
  go_ret
  refine ⟨by simp, ?_⟩
  have hg := HG.out
  exact gr
set_option maxRecDepth 100000 in
set_option maxHeartbeats 4000000 in
theorem specFails6 (pa : Option Addr) (pn pc : Nat) (ps : List Prc) (d a b rel lo hi to : Int) (on : Bool) (xa : Option Addr) (xn xc : Nat) (xs : List Itv) (slo shi : Int) (w : World) (hr : RdP w pa pn ps) (hn : pn ≤ 9223372036854775807) (hx : RdL EItv 2 w xa xn xs) (hxn : xn ≤ 9223372036854775807) (hfit : fitB ps ⟨6, d, a, b, rel, lo, hi, to⟩ on xs slo shi = true) :
    Calls Tryz.prog 45 #[.agg #[.slice pa pn pc], Ins.v ⟨6, d, a, b, rel, lo, hi, to⟩, .agg #[.bool on, .slice xa xn xc, .int .i64 slo, .int .i64 shi]] w fun e w' => e = .returned (.bool (!inI (nthI xs a) ⟨0, 3⟩)) ∧ Grew w w' := by
  have HF := Lib.hid (fun W (h : Grew w W) => specL7Fit pa pn pc ps ⟨6, d, a, b, rel, lo, hi, to⟩ on xa xn xc xs slo shi W (hr.grew h) hn (hx.grew staysItv h) hxn)
  rw [hfit] at HF
  have hff := hfit
  simp only [fitB, Bool.and_eq_true] at hff
  obtain ⟨hpok, hiok, hsok, rfl⟩ := hff
  clear hfit
  have h4 : xs.length = 4 := by obtain ⟨_, x0, x1, x2, x3, rfl, _⟩ := st_four hsok; rfl
  have hxn4 : xn = 4 := by rw [← hx.len]; exact h4
  subst hxn4
  have hiok2 := hiok
  simp only [insOkB, headB, Bool.and_eq_true] at hiok2
  obtain ⟨⟨_, _, hD, hA, hB⟩, hT⟩ := hiok2
  have ao := nthI_ok hsok hA
  obtain ⟨aj, hea, hja, hxa⟩ := nthI_get h4 hA
  obtain ⟨⟨al, ah⟩, hXa⟩ : ∃ x, nthI xs a = x := ⟨_, rfl⟩
  rw [hXa] at ao hxa ⊢
  subst hea
  have hn4 : (4 : Nat) ≤ 9223372036854775807 := by omega
  obtain ⟨qa, offa, la, ua, hba, hya, ac0, ac1, ab⟩ := rdItv_at hx hja
  rw [hya] at hxa
  cases hxa
  subst hba
  have HI := Lib.hid (fun W => specItvIn ⟨al, ah⟩ ⟨0, 3⟩ W ao (by decide))
  have HK := Lib.hid (fun W => specL7Places W)
  obtain ⟨B, hBB⟩ : ∃ B, inI ⟨al, ah⟩ ⟨0, 3⟩ = B := ⟨_, rfl⟩
  rw [hBB] at HI ⊢
  clear hBB
  have hxx := hx
  go_enter Tryz.func45, Tryz.ntmps45
  go_wp2_with fail
  refine (HF.out _ (gr)).mono ?_
  rintro e w1 ⟨rfl, g1⟩
  have hG := show Grew w w1 from grew_tr (gr) g1
  have HG := Lib.hid hG
  have lw : w.heap.size + 1 + 1 + 1 ≤ w1.heap.size := by have := g1.size; simp only [World.size_alloc] at this; omega
  have l0 : w.heap.size < w1.heap.size := by omega
  have l1 : w.heap.size + 1 < w1.heap.size := by omega
  have l2 : w.heap.size + 1 + 1 < w1.heap.size := by omega
  have p0 : w1.cell? ⟨w.heap.size, 0, none⟩ = some (.slice pa pn pc) := (g1.cell (p := ⟨w.heap.size, 0, none⟩) (by simp only [World.size_alloc]; omega)).trans (by simp [go_sem])
  have i0 : w1.cell? ⟨w.heap.size + 1, 0, none⟩ = some (.int .i64 (6 : Int)) := (g1.cell (p := ⟨w.heap.size + 1, 0, none⟩) (by simp only [World.size_alloc]; omega)).trans (by simp [go_sem])
  have i1 : w1.cell? ⟨w.heap.size + 1, 1, none⟩ = some (.int .i64 d) := (g1.cell (p := ⟨w.heap.size + 1, 1, none⟩) (by simp only [World.size_alloc]; omega)).trans (by simp [go_sem])
  have i2 : w1.cell? ⟨w.heap.size + 1, 2, none⟩ = some (.int .i64 (aj : Int)) := (g1.cell (p := ⟨w.heap.size + 1, 2, none⟩) (by simp only [World.size_alloc]; omega)).trans (by simp [go_sem])
  have i3 : w1.cell? ⟨w.heap.size + 1, 3, none⟩ = some (.int .i64 b) := (g1.cell (p := ⟨w.heap.size + 1, 3, none⟩) (by simp only [World.size_alloc]; omega)).trans (by simp [go_sem])
  have i4 : w1.cell? ⟨w.heap.size + 1, 4, none⟩ = some (.int .i64 rel) := (g1.cell (p := ⟨w.heap.size + 1, 4, none⟩) (by simp only [World.size_alloc]; omega)).trans (by simp [go_sem])
  have i5 : w1.cell? ⟨w.heap.size + 1, 5, none⟩ = some (.int .i64 lo) := (g1.cell (p := ⟨w.heap.size + 1, 5, none⟩) (by simp only [World.size_alloc]; omega)).trans (by simp [go_sem])
  have i6 : w1.cell? ⟨w.heap.size + 1, 6, none⟩ = some (.int .i64 hi) := (g1.cell (p := ⟨w.heap.size + 1, 6, none⟩) (by simp only [World.size_alloc]; omega)).trans (by simp [go_sem])
  have i7 : w1.cell? ⟨w.heap.size + 1, 7, none⟩ = some (.int .i64 to) := (g1.cell (p := ⟨w.heap.size + 1, 7, none⟩) (by simp only [World.size_alloc]; omega)).trans (by simp [go_sem])
  have s0 : w1.cell? ⟨w.heap.size + 1 + 1, 0, none⟩ = some (.bool true) := (g1.cell (p := ⟨w.heap.size + 1 + 1, 0, none⟩) (by simp only [World.size_alloc]; omega)).trans (by simp [go_sem])
  have s1 : w1.cell? ⟨w.heap.size + 1 + 1, 1, none⟩ = some (.slice (some ⟨qa, offa, none⟩) 4 xc) := (g1.cell (p := ⟨w.heap.size + 1 + 1, 1, none⟩) (by simp only [World.size_alloc]; omega)).trans (by simp [go_sem])
  have s2 : w1.cell? ⟨w.heap.size + 1 + 1, 2, none⟩ = some (.int .i64 slo) := (g1.cell (p := ⟨w.heap.size + 1 + 1, 2, none⟩) (by simp only [World.size_alloc]; omega)).trans (by simp [go_sem])
  have s3 : w1.cell? ⟨w.heap.size + 1 + 1, 3, none⟩ = some (.int .i64 shi) := (g1.cell (p := ⟨w.heap.size + 1 + 1, 3, none⟩) (by simp only [World.size_alloc]; omega)).trans (by simp [go_sem])
  have a0 := (hG.cell (p := ⟨qa, offa + aj * 2, none⟩) ab).trans ac0
  have a1 := (hG.cell (p := ⟨qa, offa + aj * 2 + 1, none⟩) ab).trans ac1
  have lb := Nat.lt_of_lt_of_le ab hG.size
  clear g1 hG hr hx hxx hpok hiok hsok hT hXa ao hya ac0 ac1 ab
  go_wp2_with fail
  first | refine wp_region_ext2 (by kernel_rfl) (by kernel_rfl) ?_ | refine wp_region_ext (by kernel_rfl) (by kernel_rfl) ?_
  repeat (go_big_quiet_step ((first | (with_reducible exact ext_grow (HI.out _)) | (with_reducible exact ext_grow (HK.out _)))))
  refine wpQuiet_nil ?_
  intro _ hw'
  obtain ⟨u, hw''⟩ := hw'
  subst hw''
  cases B
  all_goals
    go_wp2
    go_ret
    refine ⟨by simp, ?_⟩
    have hg := HG.out
    exact gr
set_option maxRecDepth 100000 in
set_option maxHeartbeats 4000000 in
theorem specFails7 (pa : Option Addr) (pn pc : Nat) (ps : List Prc) (d a b rel lo hi to : Int) (on : Bool) (xa : Option Addr) (xn xc : Nat) (xs : List Itv) (slo shi : Int) (w : World) (hr : RdP w pa pn ps) (hn : pn ≤ 9223372036854775807) (hx : RdL EItv 2 w xa xn xs) (hxn : xn ≤ 9223372036854775807) (hfit : fitB ps ⟨7, d, a, b, rel, lo, hi, to⟩ on xs slo shi = true) :
    Calls Tryz.prog 45 #[.agg #[.slice pa pn pc], Ins.v ⟨7, d, a, b, rel, lo, hi, to⟩, .agg #[.bool on, .slice xa xn xc, .int .i64 slo, .int .i64 shi]] w fun e w' => e = .returned (.bool (!inI (nthI xs a) ⟨0, 3⟩)) ∧ Grew w w' := by
  have HF := Lib.hid (fun W (h : Grew w W) => specL7Fit pa pn pc ps ⟨7, d, a, b, rel, lo, hi, to⟩ on xa xn xc xs slo shi W (hr.grew h) hn (hx.grew staysItv h) hxn)
  rw [hfit] at HF
  have hff := hfit
  simp only [fitB, Bool.and_eq_true] at hff
  obtain ⟨hpok, hiok, hsok, rfl⟩ := hff
  clear hfit
  have h4 : xs.length = 4 := by obtain ⟨_, x0, x1, x2, x3, rfl, _⟩ := st_four hsok; rfl
  have hxn4 : xn = 4 := by rw [← hx.len]; exact h4
  subst hxn4
  have hiok2 := hiok
  simp only [insOkB, headB, Bool.and_eq_true] at hiok2
  obtain ⟨⟨_, _, hD, hA, hB⟩, hT⟩ := hiok2
  have ao := nthI_ok hsok hA
  obtain ⟨aj, hea, hja, hxa⟩ := nthI_get h4 hA
  obtain ⟨⟨al, ah⟩, hXa⟩ : ∃ x, nthI xs a = x := ⟨_, rfl⟩
  rw [hXa] at ao hxa ⊢
  subst hea
  have hn4 : (4 : Nat) ≤ 9223372036854775807 := by omega
  obtain ⟨qa, offa, la, ua, hba, hya, ac0, ac1, ab⟩ := rdItv_at hx hja
  rw [hya] at hxa
  cases hxa
  subst hba
  have HI := Lib.hid (fun W => specItvIn ⟨al, ah⟩ ⟨0, 3⟩ W ao (by decide))
  have HK := Lib.hid (fun W => specL7Places W)
  obtain ⟨B, hBB⟩ : ∃ B, inI ⟨al, ah⟩ ⟨0, 3⟩ = B := ⟨_, rfl⟩
  rw [hBB] at HI ⊢
  clear hBB
  have hxx := hx
  go_enter Tryz.func45, Tryz.ntmps45
  go_wp2_with fail
  refine (HF.out _ (gr)).mono ?_
  rintro e w1 ⟨rfl, g1⟩
  have hG := show Grew w w1 from grew_tr (gr) g1
  have HG := Lib.hid hG
  have lw : w.heap.size + 1 + 1 + 1 ≤ w1.heap.size := by have := g1.size; simp only [World.size_alloc] at this; omega
  have l0 : w.heap.size < w1.heap.size := by omega
  have l1 : w.heap.size + 1 < w1.heap.size := by omega
  have l2 : w.heap.size + 1 + 1 < w1.heap.size := by omega
  have p0 : w1.cell? ⟨w.heap.size, 0, none⟩ = some (.slice pa pn pc) := (g1.cell (p := ⟨w.heap.size, 0, none⟩) (by simp only [World.size_alloc]; omega)).trans (by simp [go_sem])
  have i0 : w1.cell? ⟨w.heap.size + 1, 0, none⟩ = some (.int .i64 (7 : Int)) := (g1.cell (p := ⟨w.heap.size + 1, 0, none⟩) (by simp only [World.size_alloc]; omega)).trans (by simp [go_sem])
  have i1 : w1.cell? ⟨w.heap.size + 1, 1, none⟩ = some (.int .i64 d) := (g1.cell (p := ⟨w.heap.size + 1, 1, none⟩) (by simp only [World.size_alloc]; omega)).trans (by simp [go_sem])
  have i2 : w1.cell? ⟨w.heap.size + 1, 2, none⟩ = some (.int .i64 (aj : Int)) := (g1.cell (p := ⟨w.heap.size + 1, 2, none⟩) (by simp only [World.size_alloc]; omega)).trans (by simp [go_sem])
  have i3 : w1.cell? ⟨w.heap.size + 1, 3, none⟩ = some (.int .i64 b) := (g1.cell (p := ⟨w.heap.size + 1, 3, none⟩) (by simp only [World.size_alloc]; omega)).trans (by simp [go_sem])
  have i4 : w1.cell? ⟨w.heap.size + 1, 4, none⟩ = some (.int .i64 rel) := (g1.cell (p := ⟨w.heap.size + 1, 4, none⟩) (by simp only [World.size_alloc]; omega)).trans (by simp [go_sem])
  have i5 : w1.cell? ⟨w.heap.size + 1, 5, none⟩ = some (.int .i64 lo) := (g1.cell (p := ⟨w.heap.size + 1, 5, none⟩) (by simp only [World.size_alloc]; omega)).trans (by simp [go_sem])
  have i6 : w1.cell? ⟨w.heap.size + 1, 6, none⟩ = some (.int .i64 hi) := (g1.cell (p := ⟨w.heap.size + 1, 6, none⟩) (by simp only [World.size_alloc]; omega)).trans (by simp [go_sem])
  have i7 : w1.cell? ⟨w.heap.size + 1, 7, none⟩ = some (.int .i64 to) := (g1.cell (p := ⟨w.heap.size + 1, 7, none⟩) (by simp only [World.size_alloc]; omega)).trans (by simp [go_sem])
  have s0 : w1.cell? ⟨w.heap.size + 1 + 1, 0, none⟩ = some (.bool true) := (g1.cell (p := ⟨w.heap.size + 1 + 1, 0, none⟩) (by simp only [World.size_alloc]; omega)).trans (by simp [go_sem])
  have s1 : w1.cell? ⟨w.heap.size + 1 + 1, 1, none⟩ = some (.slice (some ⟨qa, offa, none⟩) 4 xc) := (g1.cell (p := ⟨w.heap.size + 1 + 1, 1, none⟩) (by simp only [World.size_alloc]; omega)).trans (by simp [go_sem])
  have s2 : w1.cell? ⟨w.heap.size + 1 + 1, 2, none⟩ = some (.int .i64 slo) := (g1.cell (p := ⟨w.heap.size + 1 + 1, 2, none⟩) (by simp only [World.size_alloc]; omega)).trans (by simp [go_sem])
  have s3 : w1.cell? ⟨w.heap.size + 1 + 1, 3, none⟩ = some (.int .i64 shi) := (g1.cell (p := ⟨w.heap.size + 1 + 1, 3, none⟩) (by simp only [World.size_alloc]; omega)).trans (by simp [go_sem])
  have a0 := (hG.cell (p := ⟨qa, offa + aj * 2, none⟩) ab).trans ac0
  have a1 := (hG.cell (p := ⟨qa, offa + aj * 2 + 1, none⟩) ab).trans ac1
  have lb := Nat.lt_of_lt_of_le ab hG.size
  clear g1 hG hr hx hxx hpok hiok hsok hT hXa ao hya ac0 ac1 ab
  go_wp2_with fail
  first | refine wp_region_ext2 (by kernel_rfl) (by kernel_rfl) ?_ | refine wp_region_ext (by kernel_rfl) (by kernel_rfl) ?_
  repeat (go_big_quiet_step ((first | (with_reducible exact ext_grow (HI.out _)) | (with_reducible exact ext_grow (HK.out _)))))
  refine wpQuiet_nil ?_
  intro _ hw'
  obtain ⟨u, hw''⟩ := hw'
  subst hw''
  cases B
  all_goals
    go_wp2
    go_ret
    refine ⟨by simp, ?_⟩
    have hg := HG.out
    exact gr
set_option maxRecDepth 100000 in
set_option maxHeartbeats 4000000 in
theorem specFails10 (pa : Option Addr) (pn pc : Nat) (ps : List Prc) (d a b rel lo hi to : Int) (on : Bool) (xa : Option Addr) (xn xc : Nat) (xs : List Itv) (slo shi : Int) (w : World) (hr : RdP w pa pn ps) (hn : pn ≤ 9223372036854775807) (hx : RdL EItv 2 w xa xn xs) (hxn : xn ≤ 9223372036854775807) (hfit : fitB ps ⟨10, d, a, b, rel, lo, hi, to⟩ on xs slo shi = true) :
    Calls Tryz.prog 45 #[.agg #[.slice pa pn pc], Ins.v ⟨10, d, a, b, rel, lo, hi, to⟩, .agg #[.bool on, .slice xa xn xc, .int .i64 slo, .int .i64 shi]] w fun e w' => e = .returned (.bool (!inI (nthI xs a) (prcI ps to))) ∧ Grew w w' := by
  have HF := Lib.hid (fun W (h : Grew w W) => specL7Fit pa pn pc ps ⟨10, d, a, b, rel, lo, hi, to⟩ on xa xn xc xs slo shi W (hr.grew h) hn (hx.grew staysItv h) hxn)
  rw [hfit] at HF
  have hff := hfit
  simp only [fitB, Bool.and_eq_true] at hff
  obtain ⟨hpok, hiok, hsok, rfl⟩ := hff
  clear hfit
  have h4 : xs.length = 4 := by obtain ⟨_, x0, x1, x2, x3, rfl, _⟩ := st_four hsok; rfl
  have hxn4 : xn = 4 := by rw [← hx.len]; exact h4
  subst hxn4
  have hiok2 := hiok
  simp only [insOkB, headB, Bool.and_eq_true] at hiok2
  obtain ⟨⟨_, _, hD, hA, hB⟩, hT⟩ := hiok2
  have ao := nthI_ok hsok hA
  obtain ⟨aj, hea, hja, hxa⟩ := nthI_get h4 hA
  obtain ⟨⟨al, ah⟩, hXa⟩ : ∃ x, nthI xs a = x := ⟨_, rfl⟩
  rw [hXa] at ao hxa ⊢
  subst hea
  have hn4 : (4 : Nat) ≤ 9223372036854775807 := by omega
  obtain ⟨qa, offa, la, ua, hba, hya, ac0, ac1, ab⟩ := rdItv_at hx hja
  rw [hya] at hxa
  cases hxa
  subst hba
  have hto : 0 ≤ to ∧ to < pn := by rw [hr.len] at hT; simpa [tailB] using hT
  obtain ⟨k, p, hk0, hk, hpk, he⟩ := prcI_get hto.1 (by rw [hr.len]; exact hto.2)
  have hpo := prgOk_prc hpok (List.mem_of_getElem? hpk)
  have HK := Lib.hid (fun W (h : Grew w W) => specL7Given pa pn pc ps ⟨10, d, (aj : Int), b, rel, lo, hi, to⟩ W (hr.grew h) hn hto.1 hto.2)
  simp only at HK
  rw [he] at HK ⊢
  obtain ⟨plo, phi, pcode⟩ := p
  simp only at HK hpo ⊢
  have HI := Lib.hid (fun W => specItvIn ⟨al, ah⟩ ⟨plo, phi⟩ W ao hpo)
  obtain ⟨B, hBB⟩ : ∃ B, inI ⟨al, ah⟩ ⟨plo, phi⟩ = B := ⟨_, rfl⟩
  rw [hBB] at HI ⊢
  clear hBB
  clear he hpk hpo hk0 hk hT hiok
  go_enter Tryz.func45, Tryz.ntmps45
  go_wp2_with fail
  refine (HF.out _ (gr)).mono ?_
  rintro e w1 ⟨rfl, g1⟩
  have hG := show Grew w w1 from grew_tr (gr) g1
  have HG := Lib.hid hG
  have lw : w.heap.size + 1 + 1 + 1 ≤ w1.heap.size := by have := g1.size; simp only [World.size_alloc] at this; omega
  have l0 : w.heap.size < w1.heap.size := by omega
  have l1 : w.heap.size + 1 < w1.heap.size := by omega
  have l2 : w.heap.size + 1 + 1 < w1.heap.size := by omega
  have p0 : w1.cell? ⟨w.heap.size, 0, none⟩ = some (.slice pa pn pc) := (g1.cell (p := ⟨w.heap.size, 0, none⟩) (by simp only [World.size_alloc]; omega)).trans (by simp [go_sem])
  have i0 : w1.cell? ⟨w.heap.size + 1, 0, none⟩ = some (.int .i64 (10 : Int)) := (g1.cell (p := ⟨w.heap.size + 1, 0, none⟩) (by simp only [World.size_alloc]; omega)).trans (by simp [go_sem])
  have i1 : w1.cell? ⟨w.heap.size + 1, 1, none⟩ = some (.int .i64 d) := (g1.cell (p := ⟨w.heap.size + 1, 1, none⟩) (by simp only [World.size_alloc]; omega)).trans (by simp [go_sem])
  have i2 : w1.cell? ⟨w.heap.size + 1, 2, none⟩ = some (.int .i64 (aj : Int)) := (g1.cell (p := ⟨w.heap.size + 1, 2, none⟩) (by simp only [World.size_alloc]; omega)).trans (by simp [go_sem])
  have i3 : w1.cell? ⟨w.heap.size + 1, 3, none⟩ = some (.int .i64 b) := (g1.cell (p := ⟨w.heap.size + 1, 3, none⟩) (by simp only [World.size_alloc]; omega)).trans (by simp [go_sem])
  have i4 : w1.cell? ⟨w.heap.size + 1, 4, none⟩ = some (.int .i64 rel) := (g1.cell (p := ⟨w.heap.size + 1, 4, none⟩) (by simp only [World.size_alloc]; omega)).trans (by simp [go_sem])
  have i5 : w1.cell? ⟨w.heap.size + 1, 5, none⟩ = some (.int .i64 lo) := (g1.cell (p := ⟨w.heap.size + 1, 5, none⟩) (by simp only [World.size_alloc]; omega)).trans (by simp [go_sem])
  have i6 : w1.cell? ⟨w.heap.size + 1, 6, none⟩ = some (.int .i64 hi) := (g1.cell (p := ⟨w.heap.size + 1, 6, none⟩) (by simp only [World.size_alloc]; omega)).trans (by simp [go_sem])
  have i7 : w1.cell? ⟨w.heap.size + 1, 7, none⟩ = some (.int .i64 to) := (g1.cell (p := ⟨w.heap.size + 1, 7, none⟩) (by simp only [World.size_alloc]; omega)).trans (by simp [go_sem])
  have s0 : w1.cell? ⟨w.heap.size + 1 + 1, 0, none⟩ = some (.bool true) := (g1.cell (p := ⟨w.heap.size + 1 + 1, 0, none⟩) (by simp only [World.size_alloc]; omega)).trans (by simp [go_sem])
  have s1 : w1.cell? ⟨w.heap.size + 1 + 1, 1, none⟩ = some (.slice (some ⟨qa, offa, none⟩) 4 xc) := (g1.cell (p := ⟨w.heap.size + 1 + 1, 1, none⟩) (by simp only [World.size_alloc]; omega)).trans (by simp [go_sem])
  have s2 : w1.cell? ⟨w.heap.size + 1 + 1, 2, none⟩ = some (.int .i64 slo) := (g1.cell (p := ⟨w.heap.size + 1 + 1, 2, none⟩) (by simp only [World.size_alloc]; omega)).trans (by simp [go_sem])
  have s3 : w1.cell? ⟨w.heap.size + 1 + 1, 3, none⟩ = some (.int .i64 shi) := (g1.cell (p := ⟨w.heap.size + 1 + 1, 3, none⟩) (by simp only [World.size_alloc]; omega)).trans (by simp [go_sem])
  have a0 := (hG.cell (p := ⟨qa, offa + aj * 2, none⟩) ab).trans ac0
  have a1 := (hG.cell (p := ⟨qa, offa + aj * 2 + 1, none⟩) ab).trans ac1
  have lb := Nat.lt_of_lt_of_le ab hG.size
  clear g1 hG hr hx hpok hsok hXa ao hya ac0 ac1 ab
  have HK1 := Lib.hid (fun W (h : Grew w1 W) => HK.out W (grew_tr HG.out h))
  go_wp2_with fail
  first | refine wp_region_ext2 (by kernel_rfl) (by kernel_rfl) ?_ | refine wp_region_ext (by kernel_rfl) (by kernel_rfl) ?_
  repeat (go_big_quiet_step ((first | (with_reducible exact ext_grow (HI.out _)) | (with_reducible exact ext_grow (HK1.out _ (gr))))))
  refine wpQuiet_nil ?_
  intro _ hw'
  obtain ⟨u, hw''⟩ := hw'
  subst hw''
  cases B
  all_goals
    go_wp2
    go_ret
    refine ⟨by simp, ?_⟩
    have hg := HG.out
    exact gr
set_option maxRecDepth 100000 in
set_option maxHeartbeats 4000000 in
theorem specFails11 (pa : Option Addr) (pn pc : Nat) (ps : List Prc) (d a b rel lo hi to : Int) (on : Bool) (xa : Option Addr) (xn xc : Nat) (xs : List Itv) (slo shi : Int) (w : World) (hr : RdP w pa pn ps) (hn : pn ≤ 9223372036854775807) (hx : RdL EItv 2 w xa xn xs) (hxn : xn ≤ 9223372036854775807) (hfit : fitB ps ⟨11, d, a, b, rel, lo, hi, to⟩ on xs slo shi = true) :
    Calls Tryz.prog 45 #[.agg #[.slice pa pn pc], Ins.v ⟨11, d, a, b, rel, lo, hi, to⟩, .agg #[.bool on, .slice xa xn xc, .int .i64 slo, .int .i64 shi]] w fun e w' => e = .returned (.bool ((notI rel (nthI xs a) (nthI xs b)).isSome)) ∧ Grew w w' := by
  have HF := Lib.hid (fun W (h : Grew w W) => specL7Fit pa pn pc ps ⟨11, d, a, b, rel, lo, hi, to⟩ on xa xn xc xs slo shi W (hr.grew h) hn (hx.grew staysItv h) hxn)
  rw [hfit] at HF
  have hff := hfit
  simp only [fitB, Bool.and_eq_true] at hff
  obtain ⟨hpok, hiok, hsok, rfl⟩ := hff
  clear hfit
  have h4 : xs.length = 4 := by obtain ⟨_, x0, x1, x2, x3, rfl, _⟩ := st_four hsok; rfl
  have hxn4 : xn = 4 := by rw [← hx.len]; exact h4
  subst hxn4
  have hiok2 := hiok
  simp only [insOkB, headB, Bool.and_eq_true] at hiok2
  obtain ⟨⟨_, _, hD, hA, hB⟩, hT⟩ := hiok2
  have ao := nthI_ok hsok hA
  obtain ⟨aj, hea, hja, hxa⟩ := nthI_get h4 hA
  obtain ⟨⟨al, ah⟩, hXa⟩ : ∃ x, nthI xs a = x := ⟨_, rfl⟩
  rw [hXa] at ao hxa ⊢
  have bo := nthI_ok hsok hB
  obtain ⟨bj, heb, hjb, hxb⟩ := nthI_get h4 hB
  obtain ⟨⟨bl, bh⟩, hXb⟩ : ∃ x, nthI xs b = x := ⟨_, rfl⟩
  rw [hXb] at bo hxb ⊢
  subst hea heb
  have hn4 : (4 : Nat) ≤ 9223372036854775807 := by omega
  obtain ⟨qa, offa, la, ua, hba, hya, ac0, ac1, ab⟩ := rdItv_at hx hja
  rw [hya] at hxa
  cases hxa
  obtain ⟨qb, offb, lb, ub, hbb, hyb, bc0, bc1, bb⟩ := rdItv_at hx hjb
  rw [hyb] at hxb
  cases hxb
  rw [hba] at hbb
  cases hbb
  subst hba
  have hrel : 1 ≤ rel ∧ rel ≤ 4 := by simpa [tailB] using hT
  have HI := Lib.hid (fun W => specItvNot rel ⟨al, ah⟩ ⟨bl, bh⟩ W hrel ao bo)
  rw [relV_eq] at HI
  obtain ⟨O, hO⟩ : ∃ O, notI rel ⟨al, ah⟩ ⟨bl, bh⟩ = O := ⟨_, rfl⟩
  rw [hO] at HI ⊢
  obtain ⟨⟨xl, xh⟩, hx5⟩ : ∃ x, rA O = x := ⟨_, rfl⟩
  obtain ⟨⟨yl, yh⟩, hy5⟩ : ∃ x, rB O = x := ⟨_, rfl⟩
  obtain ⟨B, hB5⟩ : ∃ x, O.isSome = x := ⟨_, rfl⟩
  rw [hx5, hy5, hB5] at HI
  rw [hB5]
  clear hO hx5 hy5 hB5
  go_enter Tryz.func45, Tryz.ntmps45
  go_wp2_with fail
  refine (HF.out _ (gr)).mono ?_
  rintro e w1 ⟨rfl, g1⟩
  have hG := show Grew w w1 from grew_tr (gr) g1
  have HG := Lib.hid hG
  have lw : w.heap.size + 1 + 1 + 1 ≤ w1.heap.size := by have := g1.size; simp only [World.size_alloc] at this; omega
  have l0 : w.heap.size < w1.heap.size := by omega
  have l1 : w.heap.size + 1 < w1.heap.size := by omega
  have l2 : w.heap.size + 1 + 1 < w1.heap.size := by omega
  have p0 : w1.cell? ⟨w.heap.size, 0, none⟩ = some (.slice pa pn pc) := (g1.cell (p := ⟨w.heap.size, 0, none⟩) (by simp only [World.size_alloc]; omega)).trans (by simp [go_sem])
  have i0 : w1.cell? ⟨w.heap.size + 1, 0, none⟩ = some (.int .i64 (11 : Int)) := (g1.cell (p := ⟨w.heap.size + 1, 0, none⟩) (by simp only [World.size_alloc]; omega)).trans (by simp [go_sem])
  have i1 : w1.cell? ⟨w.heap.size + 1, 1, none⟩ = some (.int .i64 d) := (g1.cell (p := ⟨w.heap.size + 1, 1, none⟩) (by simp only [World.size_alloc]; omega)).trans (by simp [go_sem])
  have i2 : w1.cell? ⟨w.heap.size + 1, 2, none⟩ = some (.int .i64 (aj : Int)) := (g1.cell (p := ⟨w.heap.size + 1, 2, none⟩) (by simp only [World.size_alloc]; omega)).trans (by simp [go_sem])
  have i3 : w1.cell? ⟨w.heap.size + 1, 3, none⟩ = some (.int .i64 (bj : Int)) := (g1.cell (p := ⟨w.heap.size + 1, 3, none⟩) (by simp only [World.size_alloc]; omega)).trans (by simp [go_sem])
  have i4 : w1.cell? ⟨w.heap.size + 1, 4, none⟩ = some (.int .i64 rel) := (g1.cell (p := ⟨w.heap.size + 1, 4, none⟩) (by simp only [World.size_alloc]; omega)).trans (by simp [go_sem])
  have i5 : w1.cell? ⟨w.heap.size + 1, 5, none⟩ = some (.int .i64 lo) := (g1.cell (p := ⟨w.heap.size + 1, 5, none⟩) (by simp only [World.size_alloc]; omega)).trans (by simp [go_sem])
  have i6 : w1.cell? ⟨w.heap.size + 1, 6, none⟩ = some (.int .i64 hi) := (g1.cell (p := ⟨w.heap.size + 1, 6, none⟩) (by simp only [World.size_alloc]; omega)).trans (by simp [go_sem])
  have i7 : w1.cell? ⟨w.heap.size + 1, 7, none⟩ = some (.int .i64 to) := (g1.cell (p := ⟨w.heap.size + 1, 7, none⟩) (by simp only [World.size_alloc]; omega)).trans (by simp [go_sem])
  have s0 : w1.cell? ⟨w.heap.size + 1 + 1, 0, none⟩ = some (.bool true) := (g1.cell (p := ⟨w.heap.size + 1 + 1, 0, none⟩) (by simp only [World.size_alloc]; omega)).trans (by simp [go_sem])
  have s1 : w1.cell? ⟨w.heap.size + 1 + 1, 1, none⟩ = some (.slice (some ⟨qa, offa, none⟩) 4 xc) := (g1.cell (p := ⟨w.heap.size + 1 + 1, 1, none⟩) (by simp only [World.size_alloc]; omega)).trans (by simp [go_sem])
  have s2 : w1.cell? ⟨w.heap.size + 1 + 1, 2, none⟩ = some (.int .i64 slo) := (g1.cell (p := ⟨w.heap.size + 1 + 1, 2, none⟩) (by simp only [World.size_alloc]; omega)).trans (by simp [go_sem])
  have s3 : w1.cell? ⟨w.heap.size + 1 + 1, 3, none⟩ = some (.int .i64 shi) := (g1.cell (p := ⟨w.heap.size + 1 + 1, 3, none⟩) (by simp only [World.size_alloc]; omega)).trans (by simp [go_sem])
  have a0 := (hG.cell (p := ⟨qa, offa + aj * 2, none⟩) ab).trans ac0
  have a1 := (hG.cell (p := ⟨qa, offa + aj * 2 + 1, none⟩) ab).trans ac1
  have b0 := (hG.cell (p := ⟨qa, offa + bj * 2, none⟩) bb).trans bc0
  have b1 := (hG.cell (p := ⟨qa, offa + bj * 2 + 1, none⟩) bb).trans bc1
  have lb := Nat.lt_of_lt_of_le ab hG.size
  clear g1 hG hr hx hpok hiok hsok hT hXa hXb ao bo hya hyb ac0 ac1 ab bc0 bc1 bb
  go_upto_region 12 with fail
  refine wp_letH ?_
  intro E hE
  have q0 : E.cell? ⟨w.heap.size + 1, 4, none⟩ = some (.int .i64 rel) := by rw [hE]; simp [go_sem, i4, l1]
  have q1 : E.cell? ⟨w.heap.size + 1, 2, none⟩ = some (.int .i64 (aj : Int)) := by rw [hE]; simp [go_sem, i2, l1]
  have q2 : E.cell? ⟨w.heap.size + 1, 3, none⟩ = some (.int .i64 (bj : Int)) := by rw [hE]; simp [go_sem, i3, l1]
  have q3 : E.cell? ⟨qa, offa + aj * 2, none⟩ = some (.int .i64 al) := by rw [hE]; simp [go_sem, a0, lb]
  have q4 : E.cell? ⟨qa, offa + aj * 2 + 1, none⟩ = some (.int .i64 ah) := by rw [hE]; simp [go_sem, a1, lb]
  have q5 : E.cell? ⟨qa, offa + bj * 2, none⟩ = some (.int .i64 bl) := by rw [hE]; simp [go_sem, b0, lb]
  have q6 : E.cell? ⟨qa, offa + bj * 2 + 1, none⟩ = some (.int .i64 bh) := by rw [hE]; simp [go_sem, b1, lb]
  have q7 : E.cell? ⟨w.heap.size + 1 + 1, 1, none⟩ = some (.slice (some ⟨qa, offa, none⟩) 4 xc) := by rw [hE]; simp [go_sem, s1, l2]
  have GE : Grew w1 E := by rw [hE]; exact gr
  have haq : ¬ (4 : Int) ≤ (aj : Int) := by omega
  have hbq : ¬ (4 : Int) ≤ (bj : Int) := by omega
  clear hE a0 a1 b0 b1 p0 i0 i1 i2 i3 i4 i5 i6 i7 s0 s1 s2 s3
  obtain ⟨VV, v0, v1, v2, v3, v4, v5, v6, v7, v8, v9, v10, v11, v12, v13, v14, v15, v16, v17, v18, v19, v20, v21, v22, v23, -⟩ := vl [.pointer (some ⟨w.heap.size + 1, 4, none⟩), .int .i64 rel, .pointer (some ⟨w.heap.size + 1 + 1, 1, none⟩), .slice (some ⟨qa, offa, none⟩) 4 xc, .pointer (some ⟨w.heap.size + 1, 2, none⟩), .int .i64 (aj : Int), .pointer (some ⟨qa, offa + aj * 2, none⟩), .agg #[.int .i64 al, .int .i64 ah], .pointer (some ⟨w.heap.size + 1 + 1, 1, none⟩), .slice (some ⟨qa, offa, none⟩) 4 xc, .pointer (some ⟨w.heap.size + 1, 3, none⟩), .int .i64 (bj : Int), .pointer (some ⟨qa, offa + bj * 2, none⟩), .agg #[.int .i64 bl, .int .i64 bh], .tuple #[.agg #[.int .i64 xl, .int .i64 xh], .agg #[.int .i64 yl, .int .i64 yh], .bool B], .tuple #[.agg #[.int .i64 xl, .int .i64 xh], .agg #[.int .i64 yl, .int .i64 yh], .bool B], .agg #[.int .i64 xl, .int .i64 xh], .agg #[.int .i64 yl, .int .i64 yh], .bool B, undef, undef, undef, undef, .bool B]
  have HK := fun W (c : Chg (preB [⟨some 19, 0, 21, 98, #[.int .i64 0, .int .i64 0], #[.int .i64 xl, .int .i64 xh]⟩, ⟨some 20, 0, 22, 98, #[.int .i64 0, .int .i64 0], #[.int .i64 yl, .int .i64 yh]⟩]) _ W) => And.intro (ck c q0) (And.intro (ck c q1) (And.intro (ck c q2) (And.intro (ck c q3) (And.intro (ck c q4) (And.intro (ck c q5) (And.intro (ck c q6) (ck c q7)))))))
  refine region_box 73 [⟨some 19, 0, 21, 98, #[.int .i64 0, .int .i64 0], #[.int .i64 xl, .int .i64 xh]⟩, ⟨some 20, 0, 22, 98, #[.int .i64 0, .int .i64 0], #[.int .i64 yl, .int .i64 yh]⟩] VV (by kernel_rfl) rfl (by kernel_rfl) rfl (by intro b hb ha; simp only [List.mem_cons, List.not_mem_nil, or_false] at hb; rcases hb with rfl | rfl <;> first | (cases ha; done) | assumption) (by intro j k b c hjk hj hk hb hc; rcases j with _ | _ | j <;> rcases k with _ | _ | k <;> simp at hj hk hjk <;> (try subst hj) <;> (try subst hk) <;> first | (cases hb; done) | (cases hc; done) | (simp only; omega)) ⟨?_, ?_, ?_, ?_, ?_, ?_, ?_, ?_, ?_, ?_, ?_, ?_, ?_, ?_, ?_, ?_, ?_, ?_, ?_, ?_, ?_, ?_, ?_, ?_, trivial⟩ ?_
  · exact b_vx v0 rfl rfl (fun gm a W h => by have e4 : a.eval (.tmp 4) = .pointer (some ⟨w.heap.size + 1, 0, none⟩) := (h.slot 4 (by kernel_rfl)).trans rfl; simp only [execOp, e4]; first | (simp [go_sem, haq, hbq] <;> first | exact wrapIn | rfl) | kernel_rfl)
  · exact b_vx v1 rfl rfl (fun gm a W h => by have e54 := (h.vb 0 54).trans v0; obtain ⟨kq0, kq1, kq2, kq3, kq4, kq5, kq6, kq7⟩ := HK W h.chg; simp only [execOp, e54]; first | (simp [go_sem, kq0, kq1, kq2, kq3, kq4, kq5, kq6, kq7, haq, hbq] <;> first | exact wrapIn | rfl) | kernel_rfl)
  · exact b_vx v2 rfl rfl (fun gm a W h => by have e5 : a.eval (.tmp 5) = .pointer (some ⟨w.heap.size + 1 + 1, 0, none⟩) := (h.slot 5 (by kernel_rfl)).trans rfl; simp only [execOp, e5]; first | (simp [go_sem, haq, hbq] <;> first | exact wrapIn | rfl) | kernel_rfl)
  · exact b_vx v3 rfl rfl (fun gm a W h => by have e56 := (h.vb 2 56).trans v2; obtain ⟨kq0, kq1, kq2, kq3, kq4, kq5, kq6, kq7⟩ := HK W h.chg; simp only [execOp, e56]; first | (simp [go_sem, kq0, kq1, kq2, kq3, kq4, kq5, kq6, kq7, haq, hbq] <;> first | exact wrapIn | rfl) | kernel_rfl)
  · exact b_vx v4 rfl rfl (fun gm a W h => by have e4 : a.eval (.tmp 4) = .pointer (some ⟨w.heap.size + 1, 0, none⟩) := (h.slot 4 (by kernel_rfl)).trans rfl; simp only [execOp, e4]; first | (simp [go_sem, haq, hbq] <;> first | exact wrapIn | rfl) | kernel_rfl)
  · exact b_vx v5 rfl rfl (fun gm a W h => by have e58 := (h.vb 4 58).trans v4; obtain ⟨kq0, kq1, kq2, kq3, kq4, kq5, kq6, kq7⟩ := HK W h.chg; simp only [execOp, e58]; first | (simp [go_sem, kq0, kq1, kq2, kq3, kq4, kq5, kq6, kq7, haq, hbq] <;> first | exact wrapIn | rfl) | kernel_rfl)
  · exact b_vx v6 rfl rfl (fun gm a W h => by have e57 := (h.vb 3 57).trans v3; have e59 := (h.vb 5 59).trans v5; simp only [execOp, e57, e59]; first | (simp [go_sem, haq, hbq] <;> first | exact wrapIn | rfl) | kernel_rfl)
  · exact b_vx v7 rfl rfl (fun gm a W h => by have e60 := (h.vb 6 60).trans v6; obtain ⟨kq0, kq1, kq2, kq3, kq4, kq5, kq6, kq7⟩ := HK W h.chg; simp only [execOp, e60]; first | (simp [go_sem, kq0, kq1, kq2, kq3, kq4, kq5, kq6, kq7, haq, hbq] <;> first | exact wrapIn | rfl) | kernel_rfl)
  · exact b_vx v8 rfl rfl (fun gm a W h => by have e5 : a.eval (.tmp 5) = .pointer (some ⟨w.heap.size + 1 + 1, 0, none⟩) := (h.slot 5 (by kernel_rfl)).trans rfl; simp only [execOp, e5]; first | (simp [go_sem, haq, hbq] <;> first | exact wrapIn | rfl) | kernel_rfl)
  · exact b_vx v9 rfl rfl (fun gm a W h => by have e62 := (h.vb 8 62).trans v8; obtain ⟨kq0, kq1, kq2, kq3, kq4, kq5, kq6, kq7⟩ := HK W h.chg; simp only [execOp, e62]; first | (simp [go_sem, kq0, kq1, kq2, kq3, kq4, kq5, kq6, kq7, haq, hbq] <;> first | exact wrapIn | rfl) | kernel_rfl)
  · exact b_vx v10 rfl rfl (fun gm a W h => by have e4 : a.eval (.tmp 4) = .pointer (some ⟨w.heap.size + 1, 0, none⟩) := (h.slot 4 (by kernel_rfl)).trans rfl; simp only [execOp, e4]; first | (simp [go_sem, haq, hbq] <;> first | exact wrapIn | rfl) | kernel_rfl)
  · exact b_vx v11 rfl rfl (fun gm a W h => by have e64 := (h.vb 10 64).trans v10; obtain ⟨kq0, kq1, kq2, kq3, kq4, kq5, kq6, kq7⟩ := HK W h.chg; simp only [execOp, e64]; first | (simp [go_sem, kq0, kq1, kq2, kq3, kq4, kq5, kq6, kq7, haq, hbq] <;> first | exact wrapIn | rfl) | kernel_rfl)
  · exact b_vx v12 rfl rfl (fun gm a W h => by have e63 := (h.vb 9 63).trans v9; have e65 := (h.vb 11 65).trans v11; simp only [execOp, e63, e65]; first | (simp [go_sem, haq, hbq] <;> first | exact wrapIn | rfl) | kernel_rfl)
  · exact b_vx v13 rfl rfl (fun gm a W h => by have e66 := (h.vb 12 66).trans v12; obtain ⟨kq0, kq1, kq2, kq3, kq4, kq5, kq6, kq7⟩ := HK W h.chg; simp only [execOp, e66]; first | (simp [go_sem, kq0, kq1, kq2, kq3, kq4, kq5, kq6, kq7, haq, hbq] <;> first | exact wrapIn | rfl) | kernel_rfl)
  · exact b_cx v14 rfl rfl (fun gm a W h => by
      have e55 := (h.vb 1 55).trans v1
      have e61 := (h.vb 7 61).trans v7
      have e67 := (h.vb 13 67).trans v13
      refine Eq.trans (b := .ok (.enter 82 #[a.eval (.tmp 55), a.eval (.tmp 61), a.eval (.tmp 67)]) W) (by kernel_rfl) ?_
      rw [e55, e61, e67]) (fun W => HI.out W)
  · exact b_vx v15 rfl rfl (fun gm a W h => by have e68 := (h.vb 14 68).trans v14; simp only [execOp, e68]; first | (simp [go_sem, haq, hbq] <;> first | exact wrapIn | rfl) | kernel_rfl)
  · exact b_vx v16 rfl rfl (fun gm a W h => by have e53 := (h.vb 15 53).trans v15; simp only [execOp, e53]; first | (simp [go_sem, haq, hbq] <;> first | exact wrapIn | rfl) | kernel_rfl)
  · exact b_vx v17 rfl rfl (fun gm a W h => by have e53 := (h.vb 15 53).trans v15; simp only [execOp, e53]; first | (simp [go_sem, haq, hbq] <;> first | exact wrapIn | rfl) | kernel_rfl)
  · exact b_vx v18 rfl rfl (fun gm a W h => by have e53 := (h.vb 15 53).trans v15; simp only [execOp, e53]; first | (simp [go_sem, haq, hbq] <;> first | exact wrapIn | rfl) | kernel_rfl)
  · exact b_alloc 0 _ rfl rfl rfl (by kernel_rfl) rfl (fun gm a W h => by kernel_rfl)
  · exact b_alloc 1 _ rfl rfl rfl (by kernel_rfl) rfl (fun gm a W h => by kernel_rfl)
  · refine b_store 0 _ rfl rfl rfl v21 (fun j hj => by cases hj; exact ⟨7, ⟨⟨⟨19, .data⟩, by simp, rfl, by kernel_rfl⟩, by kernel_rfl⟩⟩) rfl (fun gm a W h hold hb => ?_)
    have e7 : a.eval (.tmp 7) = .pointer (some ⟨gm 0, 0, none⟩) := (h.vb 19 7).trans rfl
    have e69 := (h.vb 16 69).trans v16
    simp only at hb
    have hf := fun j => hb.frozen j
    have c0 := hb.cell 0
    have c1 := hb.cell 1
    refine ⟨_, by (simp only [execOp, e7, e69]; simp [go_sem, hf, c0, c1, haq, hbq]; try rfl), (hb.set_ 0 _).set_ 1 _, chgs2 _ _ _ _ _ _⟩
  · refine b_store 1 _ rfl rfl rfl v22 (fun j hj => by cases hj; exact ⟨8, ⟨⟨⟨20, .data⟩, by simp, rfl, by kernel_rfl⟩, by kernel_rfl⟩⟩) rfl (fun gm a W h hold hb => ?_)
    have e8 : a.eval (.tmp 8) = .pointer (some ⟨gm 1, 0, none⟩) := (h.vb 20 8).trans rfl
    have e70 := (h.vb 17 70).trans v17
    simp only at hb
    have hf := fun j => hb.frozen j
    have c0 := hb.cell 0
    have c1 := hb.cell 1
    refine ⟨_, by (simp only [execOp, e8, e70]; simp [go_sem, hf, c0, c1, haq, hbq]; try rfl), (hb.set_ 0 _).set_ 1 _, chgs2 _ _ _ _ _ _⟩
  · exact b_vx v23 rfl rfl (fun gm a W h => by have e71 := (h.vb 18 71).trans v18; simp only [execOp, e71]; first | (simp [go_sem, haq, hbq] <;> first | exact wrapIn | rfl) | kernel_rfl)
  intro gm vs w9 hc9 hb9 hold9 hge9 hv9
  have x0 := (hv9 0 54 (by kernel_rfl)).trans v0
  have x1 := (hv9 1 55 (by kernel_rfl)).trans v1
  have x2 := (hv9 2 56 (by kernel_rfl)).trans v2
  have x3 := (hv9 3 57 (by kernel_rfl)).trans v3
  have x4 := (hv9 4 58 (by kernel_rfl)).trans v4
  have x5 := (hv9 5 59 (by kernel_rfl)).trans v5
  have x6 := (hv9 6 60 (by kernel_rfl)).trans v6
  have x7 := (hv9 7 61 (by kernel_rfl)).trans v7
  have x8 := (hv9 8 62 (by kernel_rfl)).trans v8
  have x9 := (hv9 9 63 (by kernel_rfl)).trans v9
  have x10 := (hv9 10 64 (by kernel_rfl)).trans v10
  have x11 := (hv9 11 65 (by kernel_rfl)).trans v11
  have x12 := (hv9 12 66 (by kernel_rfl)).trans v12
  have x13 := (hv9 13 67 (by kernel_rfl)).trans v13
  have x14 := (hv9 14 68 (by kernel_rfl)).trans v14
  have x15 := (hv9 15 53 (by kernel_rfl)).trans v15
  have x16 := (hv9 16 69 (by kernel_rfl)).trans v16
  have x17 := (hv9 17 70 (by kernel_rfl)).trans v17
  have x18 := (hv9 18 71 (by kernel_rfl)).trans v18
  have x19 : vs 19 = .pointer (some ⟨gm 0, 0, none⟩) := (hv9 19 7 (by kernel_rfl)).trans rfl
  have x20 : vs 20 = .pointer (some ⟨gm 1, 0, none⟩) := (hv9 20 8 (by kernel_rfl)).trans rfl
  have x23 := (hv9 23 9 (by kernel_rfl)).trans v23
  have y0 := hb9 0 _ rfl
  have g0 := hge9 0 _ 19 rfl rfl
  simp only at y0
  have y1 := hb9 1 _ rfl
  have g1 := hge9 1 _ 20 rfl rfl
  simp only at y1
  simp only [putAll, Act.put, List.setIfInBounds_toArray, List.set_cons_zero, List.set_cons_succ, Nat.zero_add, Nat.reduceAdd, x0, x1, x2, x3, x4, x5, x6, x7, x8, x9, x10, x11, x12, x13, x14, x15, x16, x17, x18, x19, x20, x23]
  clear hb9 hold9 hge9 hv9 x0 x1 x2 x3 x4 x5 x6 x7 x8 x9 x10 x11 x12 x13 x14 x15 x16 x17 x18 x19 x20 x23 v0 v1 v2 v3 v4 v5 v6 v7 v8 v9 v10 v11 v12 v13 v14 v15 v16 v17 v18 v19 v20 v21 v22 v23 HK VV
  clear y0 y1
  have HG2 := Lib.hid (grew_tr HG.out (GE.trans (hc9.belowB GE.size (fun k hk => by obtain ⟨b, hb, ha, rfl⟩ := hk; simp only [List.mem_cons, List.not_mem_nil, or_false] at hb; rcases hb with rfl | rfl <;> cases ha))))
  clear hc9 GE q0 q1 q2 q3 q4 q5 q6 q7
  go_wp2
  go_ret
  exact ⟨rfl, HG2.out⟩
end Go.Proofs.YtdddhnepanjmfaaGreat
