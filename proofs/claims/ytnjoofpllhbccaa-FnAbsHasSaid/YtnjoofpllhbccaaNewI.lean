/- Lemmas and walks of this proof, some texts one behind the other. No condition. -/
import Derived.Test.YtnjoofpllhbccaaEnter
import Derived.Test.YtnjoofpllhbccaaRunOkI
set_option linter.unusedSimpArgs false
set_option linter.unusedVariables false
/- The beginning of a run. No condition. -/
namespace Go.Proofs.Ytnjoofpllhbccaa
open Go.RowKit
set_option linter.unusedVariables false
set_option linter.unusedSimpArgs false
attribute [local go_sem] ext_cell ext_frozen ext_lt ext_le ext_le1 lt_s2 lt_s3 lt_s4 lt_s5 lt_s6 ext_lt1 ext_lt2 ext_lt3

def prcO (ps : List Prc) (proc : Int) : Option Prc := if 0 ≤ proc then ps[proc.toNat]? else none
def newOk (ps : List Prc) (proc arg : Int) : Bool := prgOkB ps && match prcO ps proc with | some p => decide (p.lo ≤ arg) && decide (arg ≤ p.hi) | none => false
def newFr (proc arg : Int) : Fr := ⟨proc, 0, [arg, 0, 0, 0], [0, 0, 0, 0]⟩
def newRun (ps : List Prc) (proc arg : Int) : Ru := if newOk ps proc arg then ⟨1, [newFr proc arg], 0, 0, 0⟩ else ⟨0, [], 0, 0, 0⟩
/-- One call of a run, in memory of its own between B and N. -/
structure Run1 (w : World) (B N : Nat) (g b1 b2 : Nat) (f : Fr) : Prop where
  row : Blk w g 76 #[.int .i64 f.proc, .int .i64 f.pc, .slice (some ⟨b1, 0, none⟩) 4 4, .slice (some ⟨b2, 0, none⟩) 4 4]
  vars : Blk w b1 3 (ints .i64 f.vars).toArray
  cells : Blk w b2 3 (ints .i64 f.cells).toArray
  lv : f.vars.length = 4
  lc : f.cells.length = 4
  g0 : B ≤ g
  g1 : g < N
  v0 : B ≤ b1
  v1 : b1 < N
  c0 : B ≤ b2
  c1 : b2 < N
  ne : b1 ≠ b2
def OwnRun (w : World) (B N : Nat) (a : Option Addr) (c : Nat) (S : Ru) : Prop :=
  (S.frames = [] ∧ a = none ∧ c = 0) ∨ ∃ f g b1 b2, S.frames = [f] ∧ a = some ⟨g, 0, none⟩ ∧ c = 1 ∧ Run1 w B N g b1 b2 f
abbrev runV (S : Ru) (a : Option Addr) (c : Nat) : Value := .agg #[.int .i64 S.state, .slice a S.frames.length c, .int .i64 S.out, .int .i64 S.proc, .int .i64 S.pc]
def RetRun (S : Ru) (w : World) (e : Ending) (w' : World) : Prop := ∃ a c, e = .returned (runV S a c) ∧ OwnRun w' w.heap.size w'.heap.size a c S ∧ Grew w w'

theorem newRun_no {ps : List Prc} {proc arg : Int} (h : newOk ps proc arg = false) : newRun ps proc arg = ⟨0, [], 0, 0, 0⟩ := by rw [newRun, h]; rfl
theorem newRun_yes {ps : List Prc} {proc arg : Int} (h : newOk ps proc arg = true) : newRun ps proc arg = ⟨1, [newFr proc arg], 0, 0, 0⟩ := by rw [newRun, h]; rfl
theorem retRun_no {w w' : World} (g : Grew w w') : RetRun ⟨0, [], 0, 0, 0⟩ w (.returned (.agg #[.int .i64 0, .slice none 0 0, .int .i64 0, .int .i64 0, .int .i64 0])) w' := ⟨none, 0, rfl, .inl ⟨rfl, rfl, rfl⟩, g⟩
theorem retRun_yes {w w' : World} {proc arg : Int} {g b1 b2 : Nat} (hg : Grew w w') (h1 : Blk w' g 76 #[.int .i64 proc, .int .i64 0, .slice (some ⟨b1, 0, none⟩) 4 4, .slice (some ⟨b2, 0, none⟩) 4 4]) (h2 : Blk w' b1 3 #[.int .i64 arg, .int .i64 0, .int .i64 0, .int .i64 0]) (h3 : Blk w' b2 3 #[.int .i64 0, .int .i64 0, .int .i64 0, .int .i64 0])
    (l1 : w.heap.size ≤ b1) (l2 : w.heap.size ≤ b2) (l3 : w.heap.size ≤ g) (hne : b1 ≠ b2) : RetRun ⟨1, [newFr proc arg], 0, 0, 0⟩ w (.returned (.agg #[.int .i64 1, .slice (some ⟨g, 0, none⟩) 1 1, .int .i64 0, .int .i64 0, .int .i64 0])) w' :=
  ⟨some ⟨g, 0, none⟩, 1, rfl, .inr ⟨_, _, _, _, rfl, rfl, rfl, h1, h2, h3, rfl, rfl, l3, h1.lt, l1, h2.lt, l2, h3.lt, hne⟩, hg⟩

set_option maxHeartbeats 4000000 in
theorem specRunNew (a : Option Addr) (n cap : Nat) (ps : List Prc) (proc arg : Int) (w : World) (hr : RdP w a n ps) (hn : n ≤ 9223372036854775807) :
    Calls Try.prog 34 #[.agg #[.slice a n cap], .int .i64 proc, .int .i64 arg] w (RetRun (newRun ps proc arg) w) := by
  have C := fun W (h : Grew w W) => specPrgOk a n cap ps W (hr.grew h) hn
  have HL := Lib.hid hr.len
  have HR := Lib.hid hr; clear hr
  cases hp : prgOkB ps
  · have HV : Hid (newRun ps proc arg = _) := Lib.hid (newRun_no (by rw [newOk, hp]; rfl))
    rw [hp] at C
    have HC := Lib.hid C; clear C hp
    go_enter Try.func34, Try.ntmps34
    go_wp2_with fail
    first | refine wp_region_ext2 (by kernel_rfl) (by kernel_rfl) ?_ | refine wp_region_ext (by kernel_rfl) (by kernel_rfl) ?_
    repeat (go_big_quiet_step ((first | (with_reducible exact ext_grow (HC.out _ (by repeat (first | with_reducible exact Below.refl _ _ | with_reducible assumption | with_reducible apply grew_ext | with_reducible apply grew_al | with_reducible apply grew_dn | with_reducible apply grew_d | (with_reducible refine grew_set ?_ (by first | omega | (repeat (first | with_reducible exact Nat.le_refl _ | with_reducible apply le_pl | with_reducible apply le_ext | with_reducible apply le_al))) _))))))))
    refine wpQuiet_nil ?_
    intro _ hw'
    obtain ⟨x, hw''⟩ := hw'
    subst hw''
    go_wp2
    go_returns
    rw [HV.out]
    refine retRun_no ?_
    repeat (first | with_reducible exact Below.refl _ _ | with_reducible assumption | with_reducible apply grew_ext | with_reducible apply grew_al | with_reducible apply grew_dn | with_reducible apply grew_d | (with_reducible refine grew_set ?_ (by first | omega | (repeat (first | with_reducible exact Nat.le_refl _ | with_reducible apply le_pl | with_reducible apply le_ext | with_reducible apply le_al))) _))
  rw [hp] at C
  have HC := Lib.hid C; clear C
  by_cases h0 : proc < 0
  · have HV : Hid (newRun ps proc arg = _) := Lib.hid (newRun_no (by rw [newOk, hp, prcO, if_neg (by omega)]; rfl))
    have h1 : decide (proc < 0) = true := decide_eq_true h0
    clear hp
    go_enter Try.func34, Try.ntmps34
    go_wp2_with fail
    first | refine wp_region_ext2 (by kernel_rfl) (by kernel_rfl) ?_ | refine wp_region_ext (by kernel_rfl) (by kernel_rfl) ?_
    repeat (go_big_quiet_step ((first | (with_reducible exact ext_grow (HC.out _ (by repeat (first | with_reducible exact Below.refl _ _ | with_reducible assumption | with_reducible apply grew_ext | with_reducible apply grew_al | with_reducible apply grew_dn | with_reducible apply grew_d | (with_reducible refine grew_set ?_ (by first | omega | (repeat (first | with_reducible exact Nat.le_refl _ | with_reducible apply le_pl | with_reducible apply le_ext | with_reducible apply le_al))) _))))))))
    refine wpQuiet_nil ?_
    intro _ hw'
    obtain ⟨x, hw''⟩ := hw'
    subst hw''
    go_wp2
    go_returns
    rw [HV.out]
    refine retRun_no ?_
    repeat (first | with_reducible exact Below.refl _ _ | with_reducible assumption | with_reducible apply grew_ext | with_reducible apply grew_al | with_reducible apply grew_dn | with_reducible apply grew_d | (with_reducible refine grew_set ?_ (by first | omega | (repeat (first | with_reducible exact Nat.le_refl _ | with_reducible apply le_pl | with_reducible apply le_ext | with_reducible apply le_al))) _))
  obtain ⟨k, rfl⟩ : ∃ k : Nat, proc = k := ⟨proc.toNat, by omega⟩
  have h1 : decide ((k : Int) < 0) = false := decide_eq_false h0
  by_cases hk : k < n
  · have h2 : decide ((n : Int) ≤ (k : Int)) = false := decide_eq_false (by omega)
    have h2' : ¬ (n : Int) ≤ (k : Int) := by omega
    have h3 : decide (n ≤ k) = false := decide_eq_false (by omega)
    have h3' : ¬ n ≤ k := by omega
    obtain ⟨b, off, lo, hi, is, ia, ic, rfl, hx, c0, c1, c2, hb, hi1, hi2, hi3⟩ := rdP_at HR.out hk
    obtain ⟨q0, q1, q2⟩ := lt3 hb
    clear hi1 hi2 hi3
    have D := fun w => l1In arg lo hi w
    have HZ : Hid (newOk ps k arg = (decide (lo ≤ arg) && decide (arg ≤ hi))) := Lib.hid (by
      rw [newOk, hp, prcO, if_pos (by omega), show (k : Int).toNat = k from rfl, hx]; rfl)
    clear hp hx
    cases hq : (decide (lo ≤ arg) && decide (arg ≤ hi))
    · have HV : Hid (newRun ps k arg = _) := Lib.hid (newRun_no (by rw [HZ.out, hq]))
      rw [hq] at D
      have HD := Lib.hid D; clear D hq
      go_enter Try.func34, Try.ntmps34
      go_wp2_with fail
      first | refine wp_region_ext2 (by kernel_rfl) (by kernel_rfl) ?_ | refine wp_region_ext (by kernel_rfl) (by kernel_rfl) ?_
      repeat (go_big_quiet_step ((first | (with_reducible exact ext_grow (HC.out _ (by repeat (first | with_reducible exact Below.refl _ _ | with_reducible assumption | with_reducible apply grew_ext | with_reducible apply grew_al | with_reducible apply grew_dn | with_reducible apply grew_d | (with_reducible refine grew_set ?_ (by first | omega | (repeat (first | with_reducible exact Nat.le_refl _ | with_reducible apply le_pl | with_reducible apply le_ext | with_reducible apply le_al))) _))))) | (with_reducible exact ext_same (HD.out _)))))
      refine wpQuiet_nil ?_
      intro _ hw'
      obtain ⟨x, hw''⟩ := hw'
      subst hw''
      go_wp2
      go_returns
      rw [HV.out]
      refine retRun_no ?_
      repeat (first | with_reducible exact Below.refl _ _ | with_reducible assumption | with_reducible apply grew_ext | with_reducible apply grew_al | with_reducible apply grew_dn | with_reducible apply grew_d | (with_reducible refine grew_set ?_ (by first | omega | (repeat (first | with_reducible exact Nat.le_refl _ | with_reducible apply le_pl | with_reducible apply le_ext | with_reducible apply le_al))) _))
    · have HV : Hid (newRun ps k arg = _) := Lib.hid (newRun_yes (by rw [HZ.out, hq]))
      rw [hq] at D
      have HD := Lib.hid D; clear D hq
      rw [HV.out]
      go_enter Try.func34, Try.ntmps34
      go_wp2_with fail
      first | refine wp_region_ext2 (by kernel_rfl) (by kernel_rfl) ?_ | refine wp_region_ext (by kernel_rfl) (by kernel_rfl) ?_
      repeat (go_big_quiet_step ((first | (with_reducible exact ext_grow (HC.out _ (by repeat (first | with_reducible exact Below.refl _ _ | with_reducible assumption | with_reducible apply grew_ext | with_reducible apply grew_al | with_reducible apply grew_dn | with_reducible apply grew_d | (with_reducible refine grew_set ?_ (by first | omega | (repeat (first | with_reducible exact Nat.le_refl _ | with_reducible apply le_pl | with_reducible apply le_ext | with_reducible apply le_al))) _))))) | (with_reducible exact ext_same (HD.out _)))))
      refine wpQuiet_nil ?_
      intro _ hw'
      obtain ⟨x, hw''⟩ := hw'
      subst hw''
      go_wp2_with fail
      refine (specEnter _ _ _).mono ?_
      rintro e w2 ⟨b1, b2, rfl, hv, hc, l1, l2, hne, g2⟩
      have Z : Blk w2 (w.heap.size + 1) 65 #[.int .i64 0, .slice none 0 0, .int .i64 0, .int .i64 0, .int .i64 0] := ((by (repeat (first | with_reducible assumption | with_reducible exact Blk.new' (by simp only [World.size_alloc, World.size_drew, World.size_setCell]) | with_reducible refine Blk.alloc ?_ _ | with_reducible refine Blk.grew ?_ (grew_d (Below.refl _ _)) | with_reducible refine Blk.far ?_ (by first | assumption | (simp only; omega)) _)) : Blk ((w.alloc (.cells #[.slice (some ⟨b, off, none⟩) n cap] 49)).alloc (.cells #[.int .i64 0, .slice none 0 0, .int .i64 0, .int .i64 0, .int .i64 0] 65)) (w.heap.size + 1) 65 _).grew (ext_grew _ x)).grew g2
      have s1 := ext_size _ x
      simp only [World.size_alloc] at s1
      have s2 := g2.size
      have n1 : b1 ≠ w.heap.size + 1 := by omega
      have n2 : b2 ≠ w.heap.size + 1 := by omega
      have GW : Grew w w2 := grew_tr (by repeat (first | with_reducible exact Below.refl _ _ | with_reducible assumption | with_reducible apply grew_ext | with_reducible apply grew_al | with_reducible apply grew_dn | with_reducible apply grew_d | (with_reducible refine grew_set ?_ (by first | omega | (repeat (first | with_reducible exact Nat.le_refl _ | with_reducible apply le_pl | with_reducible apply le_ext | with_reducible apply le_al))) _))) g2
      have z0 := Z.cell 0
      have z1 := Z.cell 1
      have z2 := Z.cell 2
      have z3 := Z.cell 3
      have z4 := Z.cell 4
      have zf := fun j => Z.frozen j
      have zl := Z.lt
      simp only [List.getElem?_toArray, List.getElem?_cons_zero, List.getElem?_cons_succ] at z0 z1 z2 z3 z4
      have HG := Lib.hid GW; clear GW Z g2
      have H1 := Lib.hid hv; clear hv
      have H2 := Lib.hid hc; clear hc
      go_wp2
      refine bodyPost_ret (by simp [results, Try.results34, go_sem, z0, z1, z2, z3, z4, zl]; try rfl) rfl ?_
      have H1 := H1.out
      have H2 := H2.out
      have hg := HG.out
      have l3 : w.heap.size ≤ w2.heap.size := hg.size
      refine retRun_yes (by repeat (first | with_reducible exact Below.refl _ _ | with_reducible assumption | with_reducible apply grew_ext | with_reducible apply grew_al | with_reducible apply grew_dn | with_reducible apply grew_d | (with_reducible refine grew_set ?_ (by first | omega | (repeat (first | with_reducible exact Nat.le_refl _ | with_reducible apply le_pl | with_reducible apply le_ext | with_reducible apply le_al))) _))) (by (repeat (first | with_reducible assumption | with_reducible exact Blk.new' (by simp only [World.size_alloc, World.size_drew, World.size_setCell]) | with_reducible refine Blk.alloc ?_ _ | with_reducible refine Blk.grew ?_ (grew_d (Below.refl _ _)) | with_reducible refine Blk.far ?_ (by first | assumption | (simp only; omega)) _))) (by (repeat (first | with_reducible assumption | with_reducible exact Blk.new' (by simp only [World.size_alloc, World.size_drew, World.size_setCell]) | with_reducible refine Blk.alloc ?_ _ | with_reducible refine Blk.grew ?_ (grew_d (Below.refl _ _)) | with_reducible refine Blk.far ?_ (by first | assumption | (simp only; omega)) _))) (by (repeat (first | with_reducible assumption | with_reducible exact Blk.new' (by simp only [World.size_alloc, World.size_drew, World.size_setCell]) | with_reducible refine Blk.alloc ?_ _ | with_reducible refine Blk.grew ?_ (grew_d (Below.refl _ _)) | with_reducible refine Blk.far ?_ (by first | assumption | (simp only; omega)) _))) (by omega) (by omega) (by omega) hne
  · have h2 : decide ((n : Int) ≤ (k : Int)) = true := decide_eq_true (by omega)
    have h2' : (n : Int) ≤ (k : Int) := by omega
    have h3 : decide (n ≤ k) = true := decide_eq_true (by omega)
    have HV : Hid (newRun ps k arg = _) := Lib.hid (newRun_no (by rw [newOk, hp, prcO, if_pos (by omega), show (k : Int).toNat = k from rfl, List.getElem?_eq_none (by have := HL.out; omega)]; rfl))
    clear hp
    go_enter Try.func34, Try.ntmps34
    go_wp2_with fail
    first | refine wp_region_ext2 (by kernel_rfl) (by kernel_rfl) ?_ | refine wp_region_ext (by kernel_rfl) (by kernel_rfl) ?_
    repeat (go_big_quiet_step ((first | (with_reducible exact ext_grow (HC.out _ (by repeat (first | with_reducible exact Below.refl _ _ | with_reducible assumption | with_reducible apply grew_ext | with_reducible apply grew_al | with_reducible apply grew_dn | with_reducible apply grew_d | (with_reducible refine grew_set ?_ (by first | omega | (repeat (first | with_reducible exact Nat.le_refl _ | with_reducible apply le_pl | with_reducible apply le_ext | with_reducible apply le_al))) _))))))))
    refine wpQuiet_nil ?_
    intro _ hw'
    obtain ⟨x, hw''⟩ := hw'
    subst hw''
    go_wp2
    go_returns
    rw [HV.out]
    refine retRun_no ?_
    repeat (first | with_reducible exact Below.refl _ _ | with_reducible assumption | with_reducible apply grew_ext | with_reducible apply grew_al | with_reducible apply grew_dn | with_reducible apply grew_d | (with_reducible refine grew_set ?_ (by first | omega | (repeat (first | with_reducible exact Nat.le_refl _ | with_reducible apply le_pl | with_reducible apply le_ext | with_reducible apply le_al))) _))
end Go.Proofs.Ytnjoofpllhbccaa

/- The beginning of a run: the program. No condition. -/
namespace Go.Proofs.Ytnjoofpllhbccaa
open Go.RowKit
set_option linter.unusedVariables false
set_option linter.unusedSimpArgs false
attribute [local go_sem] ext_cell ext_frozen ext_lt ext_le ext_le1 lt_s2 lt_s3 lt_s4 lt_s5 lt_s6 ext_lt1 ext_lt2 ext_lt3

theorem implItvHas (lo hi x : Int) (w : World) (h : itvOkB lo hi = true) :
    Calls Try.prog 76 #[.agg #[.int .i64 lo, .int .i64 hi], .int .i64 x] w fun e w' => e = .returned (.bool (decide (lo ≤ x) && decide (x ≤ hi))) ∧ Grew w w' := by
  have C := fun w => itvOk lo hi w
  rw [h] at C
  have HC := Lib.hid C; clear C h
  by_cases h1 : lo ≤ x
  · have h1' : decide (lo ≤ x) = true := decide_eq_true h1
    rw [h1']
    go_enter Try.func76, Try.ntmps76
    go_wp2_with ((with_reducible refine (HC.out _).mono ?_); rintro e w' ⟨rfl, g'⟩; (first | obtain ⟨y, rfl⟩ := ext_cold g' | obtain ⟨y, rfl⟩ := ext_col g' | obtain ⟨y, rfl⟩ := ext_of g'); clear g')
    go_ret
    refine ⟨by simp, ?_⟩
    repeat (first | with_reducible exact Below.refl _ _ | with_reducible assumption | with_reducible apply grew_ext | with_reducible apply grew_al | with_reducible apply grew_dn | with_reducible apply grew_d | (with_reducible refine grew_set ?_ (by first | omega | (repeat (first | with_reducible exact Nat.le_refl _ | with_reducible apply le_pl | with_reducible apply le_ext | with_reducible apply le_al))) _))
  · have h1' : decide (lo ≤ x) = false := decide_eq_false h1
    rw [h1']
    go_enter Try.func76, Try.ntmps76
    go_wp2_with ((with_reducible refine (HC.out _).mono ?_); rintro e w' ⟨rfl, g'⟩; (first | obtain ⟨y, rfl⟩ := ext_cold g' | obtain ⟨y, rfl⟩ := ext_col g' | obtain ⟨y, rfl⟩ := ext_of g'); clear g')
    go_ret
    refine ⟨by simp, ?_⟩
    repeat (first | with_reducible exact Below.refl _ _ | with_reducible assumption | with_reducible apply grew_ext | with_reducible apply grew_al | with_reducible apply grew_dn | with_reducible apply grew_d | (with_reducible refine grew_set ?_ (by first | omega | (repeat (first | with_reducible exact Nat.le_refl _ | with_reducible apply le_pl | with_reducible apply le_ext | with_reducible apply le_al))) _))

theorem prgOk_itv {ps : List Prc} (h : prgOkB ps = true) {k : Nat} {p : Prc} (hx : ps[k]? = some p) : itvOkB p.lo p.hi = true := by
  simp only [prgOkB, Bool.and_eq_true, List.all_eq_true] at h
  have h1 := h.2 p (List.mem_of_getElem? hx)
  simp only [prcOkB, Bool.and_eq_true] at h1
  exact h1.1.1.1

set_option maxHeartbeats 4000000 in
theorem implRunNew (a : Option Addr) (n cap : Nat) (ps : List Prc) (proc arg : Int) (w : World) (hr : RdP w a n ps) (hn : n ≤ 9223372036854775807) :
    Calls Try.prog 36 #[.agg #[.slice a n cap], .int .i64 proc, .int .i64 arg] w (RetRun (newRun ps proc arg) w) := by
  have C := fun W (h : Grew w W) => implPrgOk a n cap ps W (hr.grew h) hn
  have HL := Lib.hid hr.len
  have HR := Lib.hid hr; clear hr
  by_cases hk : 0 ≤ proc ∧ proc < n
  · obtain ⟨k, rfl⟩ : ∃ k : Nat, proc = k := ⟨proc.toNat, by omega⟩
    have hkn : k < n := by omega
    obtain ⟨b, off, lo, hi, is, ia, ic, rfl, hx, c0, c1, c2, hb, hi1, hi2, hi3⟩ := rdP_at HR.out hkn
    obtain ⟨q0, q1, q2⟩ := lt3 hb
    clear hi1 hi2 hi3
    go_enter Try.func36, Try.ntmps36
    go_wp2_with fail
    refine (implProcIn b off n cap k lo hi ia is.length ic _ hkn hn (by simp [go_sem, c0, hb, q0]) (by simp [go_sem, c1, hb, q0]) (by simp [go_sem, c2, hb, q0]) (by simp [q1])).mono ?_
    rintro e w1 ⟨rfl, g1⟩
    have GW : Grew w w1 := grew_tr (by repeat (first | with_reducible exact Below.refl _ _ | with_reducible assumption | with_reducible apply grew_ext | with_reducible apply grew_al | with_reducible apply grew_dn | with_reducible apply grew_d | (with_reducible refine grew_set ?_ (by first | omega | (repeat (first | with_reducible exact Nat.le_refl _ | with_reducible apply le_pl | with_reducible apply le_ext | with_reducible apply le_al))) _))) g1
    have Z : Blk w1 (w.heap.size + 1) 65 #[.int .i64 0, .slice none 0 0, .int .i64 0, .int .i64 0, .int .i64 0] := (by (repeat (first | with_reducible assumption | with_reducible exact Blk.new' (by simp only [World.size_alloc, World.size_drew, World.size_setCell]) | with_reducible refine Blk.alloc ?_ _ | with_reducible refine Blk.grew ?_ (grew_d (Below.refl _ _)) | with_reducible refine Blk.far ?_ (by first | assumption | (simp only; omega)) _)) : Blk ((w.alloc (.cells #[.slice (some ⟨b, off, none⟩) n cap] 49)).alloc (.cells #[.int .i64 0, .slice none 0 0, .int .i64 0, .int .i64 0, .int .i64 0] 65)) (w.heap.size + 1) 65 _).grew g1
    have p0 : w1.cell? ⟨w.heap.size, 0, none⟩ = some (.slice (some ⟨b, off, none⟩) n cap) := (g1.cell (p := ⟨w.heap.size, 0, none⟩) (by simp only [World.size_alloc]; omega)).trans (by simp [go_sem])
    have pl : w.heap.size < w1.heap.size := by have := Z.lt; omega
    have pl1 : w.heap.size < w1.heap.size + 1 := by omega
    have HZ := Lib.hid Z
    have HG := Lib.hid GW
    clear Z g1 GW c0 c1 c2
    go_wp2_with fail
    cases hp : prgOkB ps
    · have HV : Hid (newRun ps k arg = _) := Lib.hid (newRun_no (by rw [newOk, hp]; rfl))
      rw [hp] at C
      have HC := Lib.hid C; clear C hp
      refine (HC.out _ (by have h := HG.out; repeat (first | with_reducible exact Below.refl _ _ | with_reducible assumption | with_reducible apply grew_ext | with_reducible apply grew_al | with_reducible apply grew_dn | with_reducible apply grew_d | (with_reducible refine grew_set ?_ (by first | omega | (repeat (first | with_reducible exact Nat.le_refl _ | with_reducible apply le_pl | with_reducible apply le_ext | with_reducible apply le_al))) _)))).mono ?_
      rintro e w2 ⟨rfl, g2⟩
      have Z := (HZ.out.alloc _).grew g2
      have GW : Grew w w2 := grew_tr (by have h := HG.out; repeat (first | with_reducible exact Below.refl _ _ | with_reducible assumption | with_reducible apply grew_ext | with_reducible apply grew_al | with_reducible apply grew_dn | with_reducible apply grew_d | (with_reducible refine grew_set ?_ (by first | omega | (repeat (first | with_reducible exact Nat.le_refl _ | with_reducible apply le_pl | with_reducible apply le_ext | with_reducible apply le_al))) _))) g2
      have HG2 := Lib.hid GW
      clear g2 GW
      have z0 := Z.cell 0
      have z1 := Z.cell 1
      have z2 := Z.cell 2
      have z3 := Z.cell 3
      have z4 := Z.cell 4
      have zf := fun j => Z.frozen j
      have zl := Z.lt
      obtain ⟨zl1, zl2, zl3⟩ := lt3 zl
      have zl4 : w.heap.size < w2.heap.size := by omega
      simp only [List.getElem?_toArray, List.getElem?_cons_zero, List.getElem?_cons_succ] at z0 z1 z2 z3 z4
      have HZ2 := Lib.hid Z; clear Z
      go_wp2
      refine bodyPost_ret (by simp [results, Try.results36, go_sem, z0, z1, z2, z3, z4, zl, zl1, zl2, zl3, zl4]; try rfl) rfl ?_
      rw [HV.out]
      refine retRun_no ?_
      have h := HG2.out
      repeat (first | with_reducible exact Below.refl _ _ | with_reducible assumption | with_reducible apply grew_ext | with_reducible apply grew_al | with_reducible apply grew_dn | with_reducible apply grew_d | (with_reducible refine grew_set ?_ (by first | omega | (repeat (first | with_reducible exact Nat.le_refl _ | with_reducible apply le_pl | with_reducible apply le_ext | with_reducible apply le_al))) _))
    · rw [hp] at C
      have HC := Lib.hid C; clear C
      have hio := prgOk_itv hp hx
      have HZZ : Hid (newOk ps k arg = (decide (lo ≤ arg) && decide (arg ≤ hi))) := Lib.hid (by
        rw [newOk, hp, prcO, if_pos (by omega), show (k : Int).toNat = k from rfl, hx]; rfl)
      have D := fun w => implItvHas lo hi arg w hio
      clear hp hio hx
      refine (HC.out _ (by have h := HG.out; repeat (first | with_reducible exact Below.refl _ _ | with_reducible assumption | with_reducible apply grew_ext | with_reducible apply grew_al | with_reducible apply grew_dn | with_reducible apply grew_d | (with_reducible refine grew_set ?_ (by first | omega | (repeat (first | with_reducible exact Nat.le_refl _ | with_reducible apply le_pl | with_reducible apply le_ext | with_reducible apply le_al))) _)))).mono ?_
      rintro e w2 ⟨rfl, g2⟩
      have Z := (HZ.out.alloc _).grew g2
      have CB := (Blk.new w1 25 #[.int .i64 lo, .int .i64 hi, .slice ia is.length ic]).grew g2
      have GW : Grew w w2 := grew_tr (by have h := HG.out; repeat (first | with_reducible exact Below.refl _ _ | with_reducible assumption | with_reducible apply grew_ext | with_reducible apply grew_al | with_reducible apply grew_dn | with_reducible apply grew_d | (with_reducible refine grew_set ?_ (by first | omega | (repeat (first | with_reducible exact Nat.le_refl _ | with_reducible apply le_pl | with_reducible apply le_ext | with_reducible apply le_al))) _))) g2
      have y0 : w2.cell? ⟨w1.heap.size, 0, none⟩ = some (.int .i64 lo) := CB.cell 0
      have y1 : w2.cell? ⟨w1.heap.size, 1, none⟩ = some (.int .i64 hi) := CB.cell 1
      have y2 : w2.cell? ⟨w1.heap.size, 2, none⟩ = some (.slice ia is.length ic) := CB.cell 2
      have yl := CB.lt
      have HG2 := Lib.hid GW
      have HZ2 := Lib.hid Z
      clear g2 GW Z CB
      go_wp2_with fail
      refine (prcItv lo hi (.slice ia is.length ic) _).mono ?_
      rintro e w3 ⟨rfl, g3⟩
      have HZ3 := Lib.hid (HZ2.out.grew g3)
      have HG3 := Lib.hid (grew_tr HG2.out g3)
      clear g3
      go_wp2_with fail
      cases hq : (decide (lo ≤ arg) && decide (arg ≤ hi))
      · have HV : Hid (newRun ps k arg = _) := Lib.hid (newRun_no (by rw [HZZ.out, hq]))
        rw [hq] at D
        have HD := Lib.hid D; clear D hq
        refine (HD.out _).mono ?_
        rintro e w4 ⟨rfl, g4⟩
        have Z := HZ3.out.grew g4
        have HG4 := Lib.hid (grew_tr HG3.out g4)
        clear g4 y0 y1 y2 yl
        have z0 := Z.cell 0
        have z1 := Z.cell 1
        have z2 := Z.cell 2
        have z3 := Z.cell 3
        have z4 := Z.cell 4
        have zf := fun j => Z.frozen j
        have zl := Z.lt
        obtain ⟨zl1, zl2, zl3⟩ := lt3 zl
        have zl4 : w.heap.size < w4.heap.size := by omega
        simp only [List.getElem?_toArray, List.getElem?_cons_zero, List.getElem?_cons_succ] at z0 z1 z2 z3 z4
        have HZ4 := Lib.hid Z; clear Z
        go_wp2
        refine bodyPost_ret (by simp [results, Try.results36, go_sem, z0, z1, z2, z3, z4, zl, zl1, zl2, zl3, zl4]; try rfl) rfl ?_
        rw [HV.out]
        refine retRun_no ?_
        have h := HG4.out
        repeat (first | with_reducible exact Below.refl _ _ | with_reducible assumption | with_reducible apply grew_ext | with_reducible apply grew_al | with_reducible apply grew_dn | with_reducible apply grew_d | (with_reducible refine grew_set ?_ (by first | omega | (repeat (first | with_reducible exact Nat.le_refl _ | with_reducible apply le_pl | with_reducible apply le_ext | with_reducible apply le_al))) _))
      · have HV : Hid (newRun ps k arg = _) := Lib.hid (newRun_yes (by rw [HZZ.out, hq]))
        rw [hq] at D
        have HD := Lib.hid D; clear D hq
        refine (HD.out _).mono ?_
        rintro e w4 ⟨rfl, g4⟩
        have Z := HZ3.out.grew g4
        have HG4 := Lib.hid (grew_tr HG3.out g4)
        clear g4 y0 y1 y2 yl
        have HZ4 := Lib.hid Z; clear Z
        go_wp2_with fail
        refine (implEnter _ _ _).mono ?_
        rintro e w5 ⟨b1, b2, rfl, hv, hc, l1, l2, hne, g5⟩
        have s4 := HZ4.out.lt
        have s5 := HG4.out.size
        have Z := HZ4.out.grew g5
        have HG5 := Lib.hid (grew_tr HG4.out g5)
        clear g5
        have z0 := Z.cell 0
        have z1 := Z.cell 1
        have z2 := Z.cell 2
        have z3 := Z.cell 3
        have z4 := Z.cell 4
        have zf := fun j => Z.frozen j
        have zl := Z.lt
        obtain ⟨zl1, zl2, zl3⟩ := lt3 zl
        have zl4 : w.heap.size < w5.heap.size := by omega
        simp only [List.getElem?_toArray, List.getElem?_cons_zero, List.getElem?_cons_succ] at z0 z1 z2 z3 z4
        have n1 : b1 ≠ w.heap.size + 1 := by omega
        have n2 : b2 ≠ w.heap.size + 1 := by omega
        have HZ5 := Lib.hid Z; clear Z
        have H1 := Lib.hid hv; clear hv
        have H2 := Lib.hid hc; clear hc
        go_wp2
        refine bodyPost_ret (by simp [results, Try.results36, go_sem, z0, z1, z2, z3, z4, zl, zl1, zl2, zl3, zl4]; try rfl) rfl ?_
        rw [HV.out]
        have H1 := H1.out
        have H2 := H2.out
        have hg := HG5.out
        have l3 : w.heap.size ≤ w5.heap.size := hg.size
        refine retRun_yes (by repeat (first | with_reducible exact Below.refl _ _ | with_reducible assumption | with_reducible apply grew_ext | with_reducible apply grew_al | with_reducible apply grew_dn | with_reducible apply grew_d | (with_reducible refine grew_set ?_ (by first | omega | (repeat (first | with_reducible exact Nat.le_refl _ | with_reducible apply le_pl | with_reducible apply le_ext | with_reducible apply le_al))) _))) (by (repeat (first | with_reducible assumption | with_reducible exact Blk.new' (by simp only [World.size_alloc, World.size_drew, World.size_setCell]) | with_reducible refine Blk.alloc ?_ _ | with_reducible refine Blk.grew ?_ (grew_d (Below.refl _ _)) | with_reducible refine Blk.far ?_ (by first | assumption | (simp only; omega)) _))) (by (repeat (first | with_reducible assumption | with_reducible exact Blk.new' (by simp only [World.size_alloc, World.size_drew, World.size_setCell]) | with_reducible refine Blk.alloc ?_ _ | with_reducible refine Blk.grew ?_ (grew_d (Below.refl _ _)) | with_reducible refine Blk.far ?_ (by first | assumption | (simp only; omega)) _))) (by (repeat (first | with_reducible assumption | with_reducible exact Blk.new' (by simp only [World.size_alloc, World.size_drew, World.size_setCell]) | with_reducible refine Blk.alloc ?_ _ | with_reducible refine Blk.grew ?_ (grew_d (Below.refl _ _)) | with_reducible refine Blk.far ?_ (by first | assumption | (simp only; omega)) _))) (by omega) (by omega) (by omega) hne
  · have HV : Hid (newRun ps proc arg = _) := Lib.hid (newRun_no (by
      rw [newOk, prcO]
      by_cases h0 : 0 ≤ proc
      · rw [if_pos h0, List.getElem?_eq_none (by have := HL.out; omega), Bool.and_false]
      · rw [if_neg h0, Bool.and_false]))
    have hout : (decide (0 ≤ proc) && decide (proc < n)) = false := by rw [Bool.eq_false_iff]; simpa using hk
    clear C hk
    go_enter Try.func36, Try.ntmps36
    go_wp2_with fail
    refine (implProcOut a n cap proc _ hout hn).mono ?_
    rintro e w1 ⟨rfl, g1⟩
    have HG := Lib.hid (grew_tr (grew_al (grew_al (Below.refl _ w) _) _) g1 : Grew w w1)
    have Z : Blk w1 (w.heap.size + 1) 65 #[.int .i64 0, .slice none 0 0, .int .i64 0, .int .i64 0, .int .i64 0] := (by (repeat (first | with_reducible assumption | with_reducible exact Blk.new' (by simp only [World.size_alloc, World.size_drew, World.size_setCell]) | with_reducible refine Blk.alloc ?_ _ | with_reducible refine Blk.grew ?_ (grew_d (Below.refl _ _)) | with_reducible refine Blk.far ?_ (by first | assumption | (simp only; omega)) _)) : Blk ((w.alloc (.cells #[.slice a n cap] 49)).alloc (.cells #[.int .i64 0, .slice none 0 0, .int .i64 0, .int .i64 0, .int .i64 0] 65)) (w.heap.size + 1) 65 _).grew g1
    clear g1 hout
    have z0 := Z.cell 0
    have z1 := Z.cell 1
    have z2 := Z.cell 2
    have z3 := Z.cell 3
    have z4 := Z.cell 4
    have zf := fun j => Z.frozen j
    have zl := Z.lt
    obtain ⟨zl1, zl2, zl3⟩ := lt3 zl
    have zl4 : w.heap.size < w1.heap.size := by omega
    simp only [List.getElem?_toArray, List.getElem?_cons_zero, List.getElem?_cons_succ] at z0 z1 z2 z3 z4
    have HZ := Lib.hid Z; clear Z
    go_wp2
    refine bodyPost_ret (by simp [results, Try.results36, go_sem, z0, z1, z2, z3, z4, zl, zl1, zl2, zl3, zl4]; try rfl) rfl ?_
    rw [HV.out]
    refine retRun_no ?_
    have h := HG.out
    repeat (first | with_reducible exact Below.refl _ _ | with_reducible assumption | with_reducible apply grew_ext | with_reducible apply grew_al | with_reducible apply grew_dn | with_reducible apply grew_d | (with_reducible refine grew_set ?_ (by first | omega | (repeat (first | with_reducible exact Nat.le_refl _ | with_reducible apply le_pl | with_reducible apply le_ext | with_reducible apply le_al))) _))
end Go.Proofs.Ytnjoofpllhbccaa
