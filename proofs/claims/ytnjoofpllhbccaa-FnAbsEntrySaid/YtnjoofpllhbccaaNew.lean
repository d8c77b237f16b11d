/- The beginning of a run. No condition. -/
import Derived.Test.YtnjoofpllhbccaaEnter
import Derived.Test.YtnjoofpllhbccaaRunOkI
namespace Go.Proofs.Ytnjoofpllhbccaa
open Go.RowKit
set_option linter.unusedVariables false
set_option linter.unusedSimpArgs false
attribute [local go_sem] ext_cell ext_frozen ext_lt ext_le ext_le1 lt_s2 lt_s3 lt_s4 lt_s5 lt_s6 ext_lt1 ext_lt2 ext_lt3

def prcO (ps : List Prc) (proc : Int) : Option Prc := if 0 ≤ proc then ps[proc.toNat]? else none
def newOk (ps : List Prc) (proc arg : Int) : Bool := prgOkB ps && match prcO ps proc with | some p => decide (p.lo ≤ arg) && decide (arg ≤ p.hi) | none => false
def newFr (proc arg : Int) : Fr := ⟨proc, 0, [arg, 0, 0, 0], [0, 0, 0, 0]⟩
def newRun (ps : List Prc) (proc arg : Int) : Ru := if newOk ps proc arg then ⟨1, [newFr proc arg], 0, 0, 0⟩ else ⟨0, [], 0, 0, 0⟩
/-- One call of a run, in memory of its own between B and N. -/
structure Run1 (w : World) (B N : Nat) (g b1 b2 : Nat) (f : Fr) : Prop where
  row : Blk w g 76 #[.int .i64 f.proc, .int .i64 f.pc, .slice (some ⟨b1, 0, none⟩) 4 4, .slice (some ⟨b2, 0, none⟩) 4 4]
  vars : Blk w b1 3 (ints .i64 f.vars).toArray
  cells : Blk w b2 3 (ints .i64 f.cells).toArray
  lv : f.vars.length = 4
  lc : f.cells.length = 4
  g0 : B ≤ g
  g1 : g < N
  v0 : B ≤ b1
  v1 : b1 < N
  c0 : B ≤ b2
  c1 : b2 < N
  ne : b1 ≠ b2
def OwnRun (w : World) (B N : Nat) (a : Option Addr) (c : Nat) (S : Ru) : Prop :=
  (S.frames = [] ∧ a = none ∧ c = 0) ∨ ∃ f g b1 b2, S.frames = [f] ∧ a = some ⟨g, 0, none⟩ ∧ c = 1 ∧ Run1 w B N g b1 b2 f
abbrev runV (S : Ru) (a : Option Addr) (c : Nat) : Value := .agg #[.int .i64 S.state, .slice a S.frames.length c, .int .i64 S.out, .int .i64 S.proc, .int .i64 S.pc]
def RetRun (S : Ru) (w : World) (e : Ending) (w' : World) : Prop := ∃ a c, e = .returned (runV S a c) ∧ OwnRun w' w.heap.size w'.heap.size a c S ∧ Grew w w'

theorem newRun_no {ps : List Prc} {proc arg : Int} (h : newOk ps proc arg = false) : newRun ps proc arg = ⟨0, [], 0, 0, 0⟩ := by rw [newRun, h]; rfl
theorem newRun_yes {ps : List Prc} {proc arg : Int} (h : newOk ps proc arg = true) : newRun ps proc arg = ⟨1, [newFr proc arg], 0, 0, 0⟩ := by rw [newRun, h]; rfl
theorem retRun_no {w w' : World} (g : Grew w w') : RetRun ⟨0, [], 0, 0, 0⟩ w (.returned (.agg #[.int .i64 0, .slice none 0 0, .int .i64 0, .int .i64 0, .int .i64 0])) w' := ⟨none, 0, rfl, .inl ⟨rfl, rfl, rfl⟩, g⟩
theorem retRun_yes {w w' : World} {proc arg : Int} {g b1 b2 : Nat} (hg : Grew w w') (h1 : Blk w' g 76 #[.int .i64 proc, .int .i64 0, .slice (some ⟨b1, 0, none⟩) 4 4, .slice (some ⟨b2, 0, none⟩) 4 4]) (h2 : Blk w' b1 3 #[.int .i64 arg, .int .i64 0, .int .i64 0, .int .i64 0]) (h3 : Blk w' b2 3 #[.int .i64 0, .int .i64 0, .int .i64 0, .int .i64 0])
    (l1 : w.heap.size ≤ b1) (l2 : w.heap.size ≤ b2) (l3 : w.heap.size ≤ g) (hne : b1 ≠ b2) : RetRun ⟨1, [newFr proc arg], 0, 0, 0⟩ w (.returned (.agg #[.int .i64 1, .slice (some ⟨g, 0, none⟩) 1 1, .int .i64 0, .int .i64 0, .int .i64 0])) w' :=
  ⟨some ⟨g, 0, none⟩, 1, rfl, .inr ⟨_, _, _, _, rfl, rfl, rfl, h1, h2, h3, rfl, rfl, l3, h1.lt, l1, h2.lt, l2, h3.lt, hne⟩, hg⟩

set_option maxHeartbeats 4000000 in
theorem specRunNew (a : Option Addr) (n cap : Nat) (ps : List Prc) (proc arg : Int) (w : World) (hr : RdP w a n ps) (hn : n ≤ 9223372036854775807) :
    Calls Try.prog 34 #[.agg #[.slice a n cap], .int .i64 proc, .int .i64 arg] w (RetRun (newRun ps proc arg) w) := by
  have C := fun W (h : Grew w W) => specPrgOk a n cap ps W (hr.grew h) hn
  have HL := Lib.hid hr.len
  have HR := Lib.hid hr; clear hr
  cases hp : prgOkB ps
  · have HV : Hid (newRun ps proc arg = _) := Lib.hid (newRun_no (by rw [newOk, hp]; rfl))
    rw [hp] at C
    have HC := Lib.hid C; clear C hp
    go_enter Try.func34, Try.ntmps34
    go_wp2_with fail
    first | refine wp_region_ext2 (by kernel_rfl) (by kernel_rfl) ?_ | refine wp_region_ext (by kernel_rfl) (by kernel_rfl) ?_
    repeat (go_big_quiet_step ((first | (with_reducible exact ext_grow (HC.out _ (by repeat (first | with_reducible exact Below.refl _ _ | with_reducible assumption | with_reducible apply grew_ext | with_reducible apply grew_al | with_reducible apply grew_dn | with_reducible apply grew_d | (with_reducible refine grew_set ?_ (by first | omega | (repeat (first | with_reducible exact Nat.le_refl _ | with_reducible apply le_pl | with_reducible apply le_ext | with_reducible apply le_al))) _))))))))
    refine wpQuiet_nil ?_
    intro _ hw'
    obtain ⟨x, hw''⟩ := hw'
    subst hw''
    go_wp2
    go_returns
    rw [HV.out]
    refine retRun_no ?_
    repeat (first | with_reducible exact Below.refl _ _ | with_reducible assumption | with_reducible apply grew_ext | with_reducible apply grew_al | with_reducible apply grew_dn | with_reducible apply grew_d | (with_reducible refine grew_set ?_ (by first | omega | (repeat (first | with_reducible exact Nat.le_refl _ | with_reducible apply le_pl | with_reducible apply le_ext | with_reducible apply le_al))) _))
  rw [hp] at C
  have HC := Lib.hid C; clear C
  by_cases h0 : proc < 0
  · have HV : Hid (newRun ps proc arg = _) := Lib.hid (newRun_no (by rw [newOk, hp, prcO, if_neg (by omega)]; rfl))
    have h1 : decide (proc < 0) = true := decide_eq_true h0
    clear hp
    go_enter Try.func34, Try.ntmps34
    go_wp2_with fail
    first | refine wp_region_ext2 (by kernel_rfl) (by kernel_rfl) ?_ | refine wp_region_ext (by kernel_rfl) (by kernel_rfl) ?_
    repeat (go_big_quiet_step ((first | (with_reducible exact ext_grow (HC.out _ (by repeat (first | with_reducible exact Below.refl _ _ | with_reducible assumption | with_reducible apply grew_ext | with_reducible apply grew_al | with_reducible apply grew_dn | with_reducible apply grew_d | (with_reducible refine grew_set ?_ (by first | omega | (repeat (first | with_reducible exact Nat.le_refl _ | with_reducible apply le_pl | with_reducible apply le_ext | with_reducible apply le_al))) _))))))))
    refine wpQuiet_nil ?_
    intro _ hw'
    obtain ⟨x, hw''⟩ := hw'
    subst hw''
    go_wp2
    go_returns
    rw [HV.out]
    refine retRun_no ?_
    repeat (first | with_reducible exact Below.refl _ _ | with_reducible assumption | with_reducible apply grew_ext | with_reducible apply grew_al | with_reducible apply grew_dn | with_reducible apply grew_d | (with_reducible refine grew_set ?_ (by first | omega | (repeat (first | with_reducible exact Nat.le_refl _ | with_reducible apply le_pl | with_reducible apply le_ext | with_reducible apply le_al))) _))
  obtain ⟨k, rfl⟩ : ∃ k : Nat, proc = k := ⟨proc.toNat, by omega⟩
  have h1 : decide ((k : Int) < 0) = false := decide_eq_false h0
  by_cases hk : k < n
  · have h2 : decide ((n : Int) ≤ (k : Int)) = false := decide_eq_false (by omega)
    have h2' : ¬ (n : Int) ≤ (k : Int) := by omega
    have h3 : decide (n ≤ k) = false := decide_eq_false (by omega)
    have h3' : ¬ n ≤ k := by omega
    obtain ⟨b, off, lo, hi, is, ia, ic, rfl, hx, c0, c1, c2, hb, hi1, hi2, hi3⟩ := rdP_at HR.out hk
    obtain ⟨q0, q1, q2⟩ := lt3 hb
    clear hi1 hi2 hi3
    have D := fun w => l1In arg lo hi w
    have HZ : Hid (newOk ps k arg = (decide (lo ≤ arg) && decide (arg ≤ hi))) := Lib.hid (by
      rw [newOk, hp, prcO, if_pos (by omega), show (k : Int).toNat = k from rfl, hx]; rfl)
    clear hp hx
    cases hq : (decide (lo ≤ arg) && decide (arg ≤ hi))
    · have HV : Hid (newRun ps k arg = _) := Lib.hid (newRun_no (by rw [HZ.out, hq]))
      rw [hq] at D
      have HD := Lib.hid D; clear D hq
      go_enter Try.func34, Try.ntmps34
      go_wp2_with fail
      first | refine wp_region_ext2 (by kernel_rfl) (by kernel_rfl) ?_ | refine wp_region_ext (by kernel_rfl) (by kernel_rfl) ?_
      repeat (go_big_quiet_step ((first | (with_reducible exact ext_grow (HC.out _ (by repeat (first | with_reducible exact Below.refl _ _ | with_reducible assumption | with_reducible apply grew_ext | with_reducible apply grew_al | with_reducible apply grew_dn | with_reducible apply grew_d | (with_reducible refine grew_set ?_ (by first | omega | (repeat (first | with_reducible exact Nat.le_refl _ | with_reducible apply le_pl | with_reducible apply le_ext | with_reducible apply le_al))) _))))) | (with_reducible exact ext_same (HD.out _)))))
      refine wpQuiet_nil ?_
      intro _ hw'
      obtain ⟨x, hw''⟩ := hw'
      subst hw''
      go_wp2
      go_returns
      rw [HV.out]
      refine retRun_no ?_
      repeat (first | with_reducible exact Below.refl _ _ | with_reducible assumption | with_reducible apply grew_ext | with_reducible apply grew_al | with_reducible apply grew_dn | with_reducible apply grew_d | (with_reducible refine grew_set ?_ (by first | omega | (repeat (first | with_reducible exact Nat.le_refl _ | with_reducible apply le_pl | with_reducible apply le_ext | with_reducible apply le_al))) _))
    · have HV : Hid (newRun ps k arg = _) := Lib.hid (newRun_yes (by rw [HZ.out, hq]))
      rw [hq] at D
      have HD := Lib.hid D; clear D hq
      rw [HV.out]
      go_enter Try.func34, Try.ntmps34
      go_wp2_with fail
      first | refine wp_region_ext2 (by kernel_rfl) (by kernel_rfl) ?_ | refine wp_region_ext (by kernel_rfl) (by kernel_rfl) ?_
      repeat (go_big_quiet_step ((first | (with_reducible exact ext_grow (HC.out _ (by repeat (first | with_reducible exact Below.refl _ _ | with_reducible assumption | with_reducible apply grew_ext | with_reducible apply grew_al | with_reducible apply grew_dn | with_reducible apply grew_d | (with_reducible refine grew_set ?_ (by first | omega | (repeat (first | with_reducible exact Nat.le_refl _ | with_reducible apply le_pl | with_reducible apply le_ext | with_reducible apply le_al))) _))))) | (with_reducible exact ext_same (HD.out _)))))
      refine wpQuiet_nil ?_
      intro _ hw'
      obtain ⟨x, hw''⟩ := hw'
      subst hw''
      go_wp2_with fail
      refine (specEnter _ _ _).mono ?_
      rintro e w2 ⟨b1, b2, rfl, hv, hc, l1, l2, hne, g2⟩
      have Z : Blk w2 (w.heap.size + 1) 65 #[.int .i64 0, .slice none 0 0, .int .i64 0, .int .i64 0, .int .i64 0] := ((by (repeat (first | with_reducible assumption | with_reducible exact Blk.new' (by simp only [World.size_alloc, World.size_drew, World.size_setCell]) | with_reducible refine Blk.alloc ?_ _ | with_reducible refine Blk.grew ?_ (grew_d (Below.refl _ _)) | with_reducible refine Blk.far ?_ (by first | assumption | (simp only; omega)) _)) : Blk ((w.alloc (.cells #[.slice (some ⟨b, off, none⟩) n cap] 49)).alloc (.cells #[.int .i64 0, .slice none 0 0, .int .i64 0, .int .i64 0, .int .i64 0] 65)) (w.heap.size + 1) 65 _).grew (ext_grew _ x)).grew g2
      have s1 := ext_size _ x
      simp only [World.size_alloc] at s1
      have s2 := g2.size
      have n1 : b1 ≠ w.heap.size + 1 := by omega
      have n2 : b2 ≠ w.heap.size + 1 := by omega
      have GW : Grew w w2 := grew_tr (by repeat (first | with_reducible exact Below.refl _ _ | with_reducible assumption | with_reducible apply grew_ext | with_reducible apply grew_al | with_reducible apply grew_dn | with_reducible apply grew_d | (with_reducible refine grew_set ?_ (by first | omega | (repeat (first | with_reducible exact Nat.le_refl _ | with_reducible apply le_pl | with_reducible apply le_ext | with_reducible apply le_al))) _))) g2
      have z0 := Z.cell 0
      have z1 := Z.cell 1
      have z2 := Z.cell 2
      have z3 := Z.cell 3
      have z4 := Z.cell 4
      have zf := fun j => Z.frozen j
      have zl := Z.lt
      simp only [List.getElem?_toArray, List.getElem?_cons_zero, List.getElem?_cons_succ] at z0 z1 z2 z3 z4
      have HG := Lib.hid GW; clear GW Z g2
      have H1 := Lib.hid hv; clear hv
      have H2 := Lib.hid hc; clear hc
      go_wp2
      refine bodyPost_ret (by simp [results, Try.results34, go_sem, z0, z1, z2, z3, z4, zl]; try rfl) rfl ?_
      have H1 := H1.out
      have H2 := H2.out
      have hg := HG.out
      have l3 : w.heap.size ≤ w2.heap.size := hg.size
      refine retRun_yes (by repeat (first | with_reducible exact Below.refl _ _ | with_reducible assumption | with_reducible apply grew_ext | with_reducible apply grew_al | with_reducible apply grew_dn | with_reducible apply grew_d | (with_reducible refine grew_set ?_ (by first | omega | (repeat (first | with_reducible exact Nat.le_refl _ | with_reducible apply le_pl | with_reducible apply le_ext | with_reducible apply le_al))) _))) (by (repeat (first | with_reducible assumption | with_reducible exact Blk.new' (by simp only [World.size_alloc, World.size_drew, World.size_setCell]) | with_reducible refine Blk.alloc ?_ _ | with_reducible refine Blk.grew ?_ (grew_d (Below.refl _ _)) | with_reducible refine Blk.far ?_ (by first | assumption | (simp only; omega)) _))) (by (repeat (first | with_reducible assumption | with_reducible exact Blk.new' (by simp only [World.size_alloc, World.size_drew, World.size_setCell]) | with_reducible refine Blk.alloc ?_ _ | with_reducible refine Blk.grew ?_ (grew_d (Below.refl _ _)) | with_reducible refine Blk.far ?_ (by first | assumption | (simp only; omega)) _))) (by (repeat (first | with_reducible assumption | with_reducible exact Blk.new' (by simp only [World.size_alloc, World.size_drew, World.size_setCell]) | with_reducible refine Blk.alloc ?_ _ | with_reducible refine Blk.grew ?_ (grew_d (Below.refl _ _)) | with_reducible refine Blk.far ?_ (by first | assumption | (simp only; omega)) _))) (by omega) (by omega) (by omega) hne
  · have h2 : decide ((n : Int) ≤ (k : Int)) = true := decide_eq_true (by omega)
    have h2' : (n : Int) ≤ (k : Int) := by omega
    have h3 : decide (n ≤ k) = true := decide_eq_true (by omega)
    have HV : Hid (newRun ps k arg = _) := Lib.hid (newRun_no (by rw [newOk, hp, prcO, if_pos (by omega), show (k : Int).toNat = k from rfl, List.getElem?_eq_none (by have := HL.out; omega)]; rfl))
    clear hp
    go_enter Try.func34, Try.ntmps34
    go_wp2_with fail
    first | refine wp_region_ext2 (by kernel_rfl) (by kernel_rfl) ?_ | refine wp_region_ext (by kernel_rfl) (by kernel_rfl) ?_
    repeat (go_big_quiet_step ((first | (with_reducible exact ext_grow (HC.out _ (by repeat (first | with_reducible exact Below.refl _ _ | with_reducible assumption | with_reducible apply grew_ext | with_reducible apply grew_al | with_reducible apply grew_dn | with_reducible apply grew_d | (with_reducible refine grew_set ?_ (by first | omega | (repeat (first | with_reducible exact Nat.le_refl _ | with_reducible apply le_pl | with_reducible apply le_ext | with_reducible apply le_al))) _))))))))
    refine wpQuiet_nil ?_
    intro _ hw'
    obtain ⟨x, hw''⟩ := hw'
    subst hw''
    go_wp2
    go_returns
    rw [HV.out]
    refine retRun_no ?_
    repeat (first | with_reducible exact Below.refl _ _ | with_reducible assumption | with_reducible apply grew_ext | with_reducible apply grew_al | with_reducible apply grew_dn | with_reducible apply grew_d | (with_reducible refine grew_set ?_ (by first | omega | (repeat (first | with_reducible exact Nat.le_refl _ | with_reducible apply le_pl | with_reducible apply le_ext | with_reducible apply le_al))) _))
end Go.Proofs.Ytnjoofpllhbccaa
