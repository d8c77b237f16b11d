/- The three questions of one procedure: whom it calls, what can be come to, its part; reference and program. No condition. -/
import Derived.Test.YtnjoofpllhbccaaGs3
namespace Go.Proofs.Ytnjoofpllhbccaa
open Go.RowKit
set_option linter.unusedVariables false
set_option linter.unusedSimpArgs false
attribute [local go_sem] ext_cell ext_frozen ext_lt ext_le ext_le1 lt_s2 lt_s3 lt_s4 lt_s5 lt_s6 ext_lt1 ext_lt2 ext_lt3

/-- Whether a program is ok, and has a procedure. -/
def thereB (ps : List Prc) (proc : Int) : Bool := prgOkB ps && (decide (0 ≤ proc) && decide (proc < ps.length))
theorem thereB_yes {ps : List Prc} {proc : Int} (h : thereB ps proc = true) : prgOkB ps = true ∧ 0 ≤ proc ∧ proc < ps.length := by simpa [thereB] using h
/-- A test that makes memory at most. -/
def RetTG (b : Bool) (w : World) (e : Ending) (w' : World) : Prop := e = .returned (.bool b) ∧ Grew w w'
theorem l6There (a : Option Addr) (n cap : Nat) (ps : List Prc) (proc : Int) (w : World) (hr : RdP w a n ps) (hn : n ≤ 9223372036854775807) :
    Calls Try.prog 112 #[.agg #[.slice a n cap], .int .i64 proc] w (RetTG (thereB ps proc) w) := by
  have hl := hr.len
  have C := fun W (g : Grew w W) => specPrgOk a n cap ps W (hr.grew g) hn
  cases hB : prgOkB ps
  · rw [hB] at C
    have HC := Lib.hid C; clear C
    have HE := Lib.hid (show thereB ps proc = false from by simp [thereB, hB])
    clear hB hr hl
    go_enter Try.func112, Try.ntmps112
    go_wp2_with ((with_reducible refine (HC.out _ (by repeat (first | with_reducible exact Below.refl _ _ | with_reducible assumption | with_reducible apply grew_ext | with_reducible apply grew_al | with_reducible apply grew_dn | with_reducible apply grew_d | (with_reducible refine grew_set ?_ (by first | omega | (repeat (first | with_reducible exact Nat.le_refl _ | with_reducible apply le_pl | with_reducible apply le_ext | with_reducible apply le_al))) _)))).mono ?_); rintro e w' ⟨rfl, g'⟩; (first | obtain ⟨y, rfl⟩ := ext_cold g' | obtain ⟨y, rfl⟩ := ext_col g' | obtain ⟨y, rfl⟩ := ext_of g'); clear g')
    go_ret
    rw [HE.out]
    exact ⟨rfl, by repeat (first | with_reducible exact Below.refl _ _ | with_reducible assumption | with_reducible apply grew_ext | with_reducible apply grew_al | with_reducible apply grew_dn | with_reducible apply grew_d | (with_reducible refine grew_set ?_ (by first | omega | (repeat (first | with_reducible exact Nat.le_refl _ | with_reducible apply le_pl | with_reducible apply le_ext | with_reducible apply le_al))) _))⟩
  · rw [hB] at C
    have HC := Lib.hid C; clear C
    by_cases h0 : 0 ≤ proc
    · by_cases h1 : proc < n
      · have HE := Lib.hid (show thereB ps proc = true from by simp [thereB, hB, h0, hl, h1])
        clear hB hr hl
        go_enter Try.func112, Try.ntmps112
        go_wp2_with ((with_reducible refine (HC.out _ (by repeat (first | with_reducible exact Below.refl _ _ | with_reducible assumption | with_reducible apply grew_ext | with_reducible apply grew_al | with_reducible apply grew_dn | with_reducible apply grew_d | (with_reducible refine grew_set ?_ (by first | omega | (repeat (first | with_reducible exact Nat.le_refl _ | with_reducible apply le_pl | with_reducible apply le_ext | with_reducible apply le_al))) _)))).mono ?_); rintro e w' ⟨rfl, g'⟩; (first | obtain ⟨y, rfl⟩ := ext_cold g' | obtain ⟨y, rfl⟩ := ext_col g' | obtain ⟨y, rfl⟩ := ext_of g'); clear g')
        go_ret
        rw [HE.out]
        exact ⟨rfl, by repeat (first | with_reducible exact Below.refl _ _ | with_reducible assumption | with_reducible apply grew_ext | with_reducible apply grew_al | with_reducible apply grew_dn | with_reducible apply grew_d | (with_reducible refine grew_set ?_ (by first | omega | (repeat (first | with_reducible exact Nat.le_refl _ | with_reducible apply le_pl | with_reducible apply le_ext | with_reducible apply le_al))) _))⟩
      · have HE := Lib.hid (show thereB ps proc = false from by simp [thereB, hB, h0, hl, h1])
        have h2 : decide (proc < (n : Int)) = false := by simp; omega
        clear hB hr hl h1
        go_enter Try.func112, Try.ntmps112
        go_wp2_with ((with_reducible refine (HC.out _ (by repeat (first | with_reducible exact Below.refl _ _ | with_reducible assumption | with_reducible apply grew_ext | with_reducible apply grew_al | with_reducible apply grew_dn | with_reducible apply grew_d | (with_reducible refine grew_set ?_ (by first | omega | (repeat (first | with_reducible exact Nat.le_refl _ | with_reducible apply le_pl | with_reducible apply le_ext | with_reducible apply le_al))) _)))).mono ?_); rintro e w' ⟨rfl, g'⟩; (first | obtain ⟨y, rfl⟩ := ext_cold g' | obtain ⟨y, rfl⟩ := ext_col g' | obtain ⟨y, rfl⟩ := ext_of g'); clear g')
        go_ret
        rw [HE.out]
        exact ⟨rfl, by repeat (first | with_reducible exact Below.refl _ _ | with_reducible assumption | with_reducible apply grew_ext | with_reducible apply grew_al | with_reducible apply grew_dn | with_reducible apply grew_d | (with_reducible refine grew_set ?_ (by first | omega | (repeat (first | with_reducible exact Nat.le_refl _ | with_reducible apply le_pl | with_reducible apply le_ext | with_reducible apply le_al))) _))⟩
    · have HE := Lib.hid (show thereB ps proc = false from by simp [thereB, hB, h0])
      have h2 : proc < 0 := by omega
      clear hB hr hl h0
      go_enter Try.func112, Try.ntmps112
      go_wp2_with ((with_reducible refine (HC.out _ (by repeat (first | with_reducible exact Below.refl _ _ | with_reducible assumption | with_reducible apply grew_ext | with_reducible apply grew_al | with_reducible apply grew_dn | with_reducible apply grew_d | (with_reducible refine grew_set ?_ (by first | omega | (repeat (first | with_reducible exact Nat.le_refl _ | with_reducible apply le_pl | with_reducible apply le_ext | with_reducible apply le_al))) _)))).mono ?_); rintro e w' ⟨rfl, g'⟩; (first | obtain ⟨y, rfl⟩ := ext_cold g' | obtain ⟨y, rfl⟩ := ext_col g' | obtain ⟨y, rfl⟩ := ext_of g'); clear g')
      go_ret
      rw [HE.out]
      exact ⟨rfl, by repeat (first | with_reducible exact Below.refl _ _ | with_reducible assumption | with_reducible apply grew_ext | with_reducible apply grew_al | with_reducible apply grew_dn | with_reducible apply grew_d | (with_reducible refine grew_set ?_ (by first | omega | (repeat (first | with_reducible exact Nat.le_refl _ | with_reducible apply le_pl | with_reducible apply le_ext | with_reducible apply le_al))) _))⟩
theorem retIs_nil {w w' : World} (g : Grew w w') : RetIs [] w (.returned (.slice none 0 0)) w' := ⟨none, 0, rfl, World.ownsRow_nil _ _ _ _, g⟩
theorem retIs_lit {w W : World} (b : Nat) (hb : b = W.heap.size) (g : Grew w W) : RetIs [] w (.returned (.slice (some ⟨b, 0, none⟩) 0 0)) (W.alloc (.cells #[] 3)) := by
  subst hb
  exact ⟨_, _, rfl, by simpa [ints] using World.ownsRow_lit W (e := 3) (size := 1) #[] 0 (base := w.heap.size) g.size (Nat.zero_le _) rfl, g.alloc g.size _⟩
/-- A call's own row out of an owned graph. -/
theorem gr_call {w : World} {B gb k : Nat} {cs parts : List (List Int)} (h : GrOwn w B gb cs parts) (hk : k < cs.length) : ∃ b off cp la lc, w.cell? ⟨gb, 1, none⟩ = some (.slice (some ⟨b, off, none⟩) cs.length cp) ∧ w.cell? ⟨b, off + k, none⟩ = some (.slice la (cOf' cs k).length lc) ∧
    w.ownsRow B 3 1 (.slice la (cOf' cs k).length lc) (cOf' cs k).length (ints .i64 (cOf' cs k)) := by
  obtain ⟨⟨x, cv, pv, cms, pms, h1, h2, h3, h4, h5⟩, h6, h7, h8⟩ := h
  obtain ⟨A, cp, rfl⟩ := owns_slice h2.row
  have hl : cms.length = cs.length := by rw [← h3]; simp
  have hr := owns_rd h2.row
  rcases hr.2 with e | ⟨b, off, rfl, hc⟩
  · have := congrArg List.length e
    simp only [List.length_map, List.length_nil] at this
    omega
  · have hm : cms[k]? = some (cms[k]'(by omega)) := List.getElem?_eq_getElem _
    have ho := h2.each _ (List.mem_of_getElem? hm)
    have e1 : cOf' cs (k : Int) = (cms[k]'(by omega)).1 := by
      have : cs[k]? = some (cms[k]'(by omega)).1 := by
        have h := congrArg (fun l => l[k]?) h3
        simp only [List.getElem?_map, hm] at h
        exact h.symm
      simp [cOf', this]
    obtain ⟨la, lc, hv⟩ := owns_slice ho
    have h9 : w.cell? ⟨b, off + k, none⟩ = some (cms[k]'(by omega)).2 := hc k _ (by rw [List.getElem?_map, hm]; rfl)
    rw [hv] at ho h9
    rw [e1]
    exact ⟨b, off, cp, la, lc, by rw [← hl]; exact h1.cell 1, h9, ho⟩

/-- GrfCalls. -/
def grfCalls (ps : List Prc) (proc : Int) : List Int := if thereB ps proc then cOf' (csOf ps) proc else []
set_option maxHeartbeats 1000000 in
theorem specGrfCalls (a : Option Addr) (n cap : Nat) (ps : List Prc) (proc : Int) (w : World) (hr : RdP w a n ps) (hn : n ≤ 9223372036854775807) :
    Calls Try.prog 49 #[.agg #[.slice a n cap], .int .i64 proc] w (RetIs (grfCalls ps proc) w) := by
  have hl := hr.len
  have C := fun W (g : Grew w W) => l6There a n cap ps proc W (hr.grew g) hn
  cases hT : thereB ps proc
  · rw [hT] at C
    have HC := Lib.hid C; clear C
    have HE := Lib.hid (show grfCalls ps proc = [] from by simp [grfCalls, hT])
    clear hT hr hl
    go_enter Try.func49, Try.ntmps49
    go_wp2_with ((with_reducible refine (HC.out _ (by repeat (first | with_reducible exact Below.refl _ _ | with_reducible assumption | with_reducible apply grew_ext | with_reducible apply grew_al | with_reducible apply grew_dn | with_reducible apply grew_d | (with_reducible refine grew_set ?_ (by first | omega | (repeat (first | with_reducible exact Nat.le_refl _ | with_reducible apply le_pl | with_reducible apply le_ext | with_reducible apply le_al))) _)))).mono ?_); rintro e w' ⟨rfl, g'⟩; (first | obtain ⟨y, rfl⟩ := ext_cold g' | obtain ⟨y, rfl⟩ := ext_col g' | obtain ⟨y, rfl⟩ := ext_of g'); clear g')
    go_ret
    rw [HE.out]
    exact retIs_lit _ (by simp) (by repeat (first | with_reducible exact Below.refl _ _ | with_reducible assumption | with_reducible apply grew_ext | with_reducible apply grew_al | with_reducible apply grew_dn | with_reducible apply grew_d | (with_reducible refine grew_set ?_ (by first | omega | (repeat (first | with_reducible exact Nat.le_refl _ | with_reducible apply le_pl | with_reducible apply le_ext | with_reducible apply le_al))) _)))
  · rw [hT] at C
    have HC := Lib.hid C; clear C
    obtain ⟨hB, h0, h1⟩ := thereB_yes hT
    have HE := Lib.hid (show grfCalls ps proc = cOf' (csOf ps) proc from by simp [grfCalls, hT])
    have HD := Lib.hid (fun W (g : Grew w W) => l6Calls a n cap ps proc W (hr.grew g) hn hB ⟨h0, by rw [hl] at h1; exact h1⟩)
    clear hT hr hl hB h0 h1
    go_enter Try.func49, Try.ntmps49
    go_wp2_with fail
    refine (HC.out _ (by repeat (first | with_reducible exact Below.refl _ _ | with_reducible assumption | with_reducible apply grew_ext | with_reducible apply grew_al | with_reducible apply grew_dn | with_reducible apply grew_d | (with_reducible refine grew_set ?_ (by first | omega | (repeat (first | with_reducible exact Nat.le_refl _ | with_reducible apply le_pl | with_reducible apply le_ext | with_reducible apply le_al))) _)))).mono ?_
    rintro e w1 ⟨rfl, g1⟩
    have hb1 : w1.cell? ⟨w.heap.size, 0, none⟩ = some (.slice a n cap) := (g1.cell (p := ⟨w.heap.size, 0, none⟩) (by simp)).trans (by simp [go_sem])
    have hg1 : Grew w w1 := grew_tr (grew_al (Below.refl _ _) _) g1
    go_wp2_with fail
    refine (HD.out _ hg1).mono ?_
    rintro e w2 ⟨A, c, rfl, o2, g2⟩
    have O2 := Lib.hid (owns_mono o2 hg1.size)
    have G2 := Lib.hid (grew_tr hg1 g2)
    clear o2 g2 g1 hg1 hb1
    go_wp2
    go_ret
    rw [HE.out]
    exact ⟨A, c, rfl, O2.out, G2.out⟩
set_option maxHeartbeats 1000000 in
theorem implGrfCalls (a : Option Addr) (n cap : Nat) (ps : List Prc) (proc : Int) (w : World) (hr : RdP w a n ps) (hn : n ≤ 9223372036854775807) :
    Calls Try.prog 48 #[.agg #[.slice a n cap], .int .i64 proc] w (RetIs (grfCalls ps proc) w) := by
  have hl := hr.len
  cases hB : prgOkB ps
  · have HC := Lib.hid (fun W (g : Grew w W) => readGraphNo a n cap ps W (hr.grew g) hn hB)
    have HE := Lib.hid (show grfCalls ps proc = [] from by simp [grfCalls, thereB, hB])
    clear hB hr hl
    go_enter Try.func48, Try.ntmps48
    go_wp2_with fail
    refine (HC.out _ (by repeat (first | with_reducible exact Below.refl _ _ | with_reducible assumption | with_reducible apply grew_ext | with_reducible apply grew_al | with_reducible apply grew_dn | with_reducible apply grew_d | (with_reducible refine grew_set ?_ (by first | omega | (repeat (first | with_reducible exact Nat.le_refl _ | with_reducible apply le_pl | with_reducible apply le_ext | with_reducible apply le_al))) _)))).mono ?_
    rintro e w1 ⟨rfl, g1⟩
    go_wp2
    go_ret
    rw [HE.out]
    exact retIs_nil (grew_tr (by repeat (first | with_reducible exact Below.refl _ _ | with_reducible assumption | with_reducible apply grew_ext | with_reducible apply grew_al | with_reducible apply grew_dn | with_reducible apply grew_d | (with_reducible refine grew_set ?_ (by first | omega | (repeat (first | with_reducible exact Nat.le_refl _ | with_reducible apply le_pl | with_reducible apply le_ext | with_reducible apply le_al))) _))) g1)
  · have HC := Lib.hid (fun W (g : Grew w W) => readGraphYes a n cap ps W (hr.grew g) hn hB)
    have HL := Lib.hid hl
    by_cases hp : 0 ≤ proc ∧ proc < (csOf ps).length
    · have HE := Lib.hid (show grfCalls ps proc = cOf' (csOf ps) proc from by rw [csOf_len] at hp; simp [grfCalls, thereB, hB, hp.1, hp.2])
      obtain ⟨k, rfl⟩ := Int.eq_ofNat_of_zero_le hp.1
      have hk : k < (csOf ps).length := by omega
      have h900 : (csOf ps).length ≤ 900 := by rw [csOf_len]; have := (prg_len hB).2; omega
      clear hr hl hB
      go_enter Try.func48, Try.ntmps48
      go_wp2_with fail
      refine (HC.out _ (by repeat (first | with_reducible exact Below.refl _ _ | with_reducible assumption | with_reducible apply grew_ext | with_reducible apply grew_al | with_reducible apply grew_dn | with_reducible apply grew_d | (with_reducible refine grew_set ?_ (by first | omega | (repeat (first | with_reducible exact Nat.le_refl _ | with_reducible apply le_pl | with_reducible apply le_ext | with_reducible apply le_al))) _)))).mono ?_
      rintro e w1 ⟨gb, rfl, hg, g1⟩
      obtain ⟨b, off, cp, la, lc, q1, q2, q3⟩ := gr_call hg hk
      have HG := Lib.hid hg
      have HG1 := Lib.hid (grew_tr (show Grew w (w.alloc (.cells #[.slice a n cap] 49)) from grew_al (Below.refl _ _) _) g1)
      have Q3 := Lib.hid (owns_mono q3 (show w.heap.size ≤ _ from by simp))
      have hD := fun W => below (k : Int) (csOf ps).length W
      rw [decide_eq_true (by omega), decide_eq_true (by omega)] at hD
      have HD := Lib.hid hD
      clear hg g1 q3 hD
      go_wp2_with ((with_reducible refine (HD.out _).mono ?_); rintro e w' ⟨rfl, rfl⟩)
      go_ret
      rw [HE.out]
      exact ⟨la, lc, rfl, Q3.out, HG1.out⟩
    · have HE := Lib.hid (show grfCalls ps proc = [] from by
        rw [csOf_len] at hp
        have : thereB ps proc = false := by simp [thereB, hB]; omega
        simp [grfCalls, this])
      have hD := fun W => below proc (csOf ps).length W
      have hz : (decide (0 ≤ proc) && decide (proc < ((csOf ps).length : Int))) = false := by simp; omega
      rw [hz] at hD
      have HD := Lib.hid hD
      clear hr hl hB hp hD hz
      go_enter Try.func48, Try.ntmps48
      go_wp2_with fail
      refine (HC.out _ (by repeat (first | with_reducible exact Below.refl _ _ | with_reducible assumption | with_reducible apply grew_ext | with_reducible apply grew_al | with_reducible apply grew_dn | with_reducible apply grew_d | (with_reducible refine grew_set ?_ (by first | omega | (repeat (first | with_reducible exact Nat.le_refl _ | with_reducible apply le_pl | with_reducible apply le_ext | with_reducible apply le_al))) _)))).mono ?_
      rintro e w1 ⟨gb, rfl, hg, g1⟩
      obtain ⟨ca, cc, q1, -, -⟩ := hg.gr.c
      have HG1 := Lib.hid (grew_tr (show Grew w (w.alloc (.cells #[.slice a n cap] 49)) from grew_al (Below.refl _ _) _) g1)
      clear hg g1
      go_wp2_with ((with_reducible refine (HD.out _).mono ?_); rintro e w' ⟨rfl, rfl⟩)
      go_ret
      rw [HE.out]
      exact retIs_nil HG1.out

/-- GrfReach. -/
def grfReach (ps : List Prc) (proc : Int) : List Int := if thereB ps proc then reachL (cOf' (csOf ps)) (csOf ps).length proc else []
set_option maxHeartbeats 1000000 in
theorem specGrfReach (a : Option Addr) (n cap : Nat) (ps : List Prc) (proc : Int) (w : World) (hr : RdP w a n ps) (hn : n ≤ 9223372036854775807) :
    Calls Try.prog 54 #[.agg #[.slice a n cap], .int .i64 proc] w (RetIs (grfReach ps proc) w) := by
  have hl := hr.len
  have C := fun W (g : Grew w W) => l6There a n cap ps proc W (hr.grew g) hn
  cases hT : thereB ps proc
  · rw [hT] at C
    have HC := Lib.hid C; clear C
    have HE := Lib.hid (show grfReach ps proc = [] from by simp [grfReach, hT])
    clear hT hr hl
    go_enter Try.func54, Try.ntmps54
    go_wp2_with ((with_reducible refine (HC.out _ (by repeat (first | with_reducible exact Below.refl _ _ | with_reducible assumption | with_reducible apply grew_ext | with_reducible apply grew_al | with_reducible apply grew_dn | with_reducible apply grew_d | (with_reducible refine grew_set ?_ (by first | omega | (repeat (first | with_reducible exact Nat.le_refl _ | with_reducible apply le_pl | with_reducible apply le_ext | with_reducible apply le_al))) _)))).mono ?_); rintro e w' ⟨rfl, g'⟩; (first | obtain ⟨y, rfl⟩ := ext_cold g' | obtain ⟨y, rfl⟩ := ext_col g' | obtain ⟨y, rfl⟩ := ext_of g'); clear g')
    go_ret
    rw [HE.out]
    exact retIs_lit _ (by simp) (by repeat (first | with_reducible exact Below.refl _ _ | with_reducible assumption | with_reducible apply grew_ext | with_reducible apply grew_al | with_reducible apply grew_dn | with_reducible apply grew_d | (with_reducible refine grew_set ?_ (by first | omega | (repeat (first | with_reducible exact Nat.le_refl _ | with_reducible apply le_pl | with_reducible apply le_ext | with_reducible apply le_al))) _)))
  · rw [hT] at C
    have HC := Lib.hid C; clear C
    obtain ⟨hB, h0, h1⟩ := thereB_yes hT
    have HE := Lib.hid (show grfReach ps proc = reachL (cOf' (csOf ps)) (csOf ps).length proc from by simp [grfReach, hT])
    have HD := Lib.hid (fun W (g : Grew w W) => l6Reach a n cap ps proc W (hr.grew g) hn hB ⟨h0, by rw [hl] at h1; exact h1⟩)
    clear hT hr hl hB h0 h1
    go_enter Try.func54, Try.ntmps54
    go_wp2_with fail
    refine (HC.out _ (by repeat (first | with_reducible exact Below.refl _ _ | with_reducible assumption | with_reducible apply grew_ext | with_reducible apply grew_al | with_reducible apply grew_dn | with_reducible apply grew_d | (with_reducible refine grew_set ?_ (by first | omega | (repeat (first | with_reducible exact Nat.le_refl _ | with_reducible apply le_pl | with_reducible apply le_ext | with_reducible apply le_al))) _)))).mono ?_
    rintro e w1 ⟨rfl, g1⟩
    have hb1 : w1.cell? ⟨w.heap.size, 0, none⟩ = some (.slice a n cap) := (g1.cell (p := ⟨w.heap.size, 0, none⟩) (by simp)).trans (by simp [go_sem])
    have hg1 : Grew w w1 := grew_tr (grew_al (Below.refl _ _) _) g1
    go_wp2_with fail
    refine (HD.out _ hg1).mono ?_
    rintro e w2 ⟨A, c, rfl, o2, g2⟩
    have O2 := Lib.hid (owns_mono o2 hg1.size)
    have G2 := Lib.hid (grew_tr hg1 g2)
    clear o2 g2 g1 hg1 hb1
    go_wp2
    go_ret
    rw [HE.out]
    exact ⟨A, c, rfl, O2.out, G2.out⟩
set_option maxHeartbeats 1000000 in
theorem implGrfReach (a : Option Addr) (n cap : Nat) (ps : List Prc) (proc : Int) (w : World) (hr : RdP w a n ps) (hn : n ≤ 9223372036854775807) :
    Calls Try.prog 53 #[.agg #[.slice a n cap], .int .i64 proc] w (RetIs (grfReach ps proc) w) := by
  have hl := hr.len
  cases hB : prgOkB ps
  · have HC := Lib.hid (fun W (g : Grew w W) => readGraphNo a n cap ps W (hr.grew g) hn hB)
    have HE := Lib.hid (show grfReach ps proc = [] from by simp [grfReach, thereB, hB])
    clear hB hr hl
    go_enter Try.func53, Try.ntmps53
    go_wp2_with fail
    refine (HC.out _ (by repeat (first | with_reducible exact Below.refl _ _ | with_reducible assumption | with_reducible apply grew_ext | with_reducible apply grew_al | with_reducible apply grew_dn | with_reducible apply grew_d | (with_reducible refine grew_set ?_ (by first | omega | (repeat (first | with_reducible exact Nat.le_refl _ | with_reducible apply le_pl | with_reducible apply le_ext | with_reducible apply le_al))) _)))).mono ?_
    rintro e w1 ⟨rfl, g1⟩
    go_wp2
    go_ret
    rw [HE.out]
    exact retIs_nil (grew_tr (by repeat (first | with_reducible exact Below.refl _ _ | with_reducible assumption | with_reducible apply grew_ext | with_reducible apply grew_al | with_reducible apply grew_dn | with_reducible apply grew_d | (with_reducible refine grew_set ?_ (by first | omega | (repeat (first | with_reducible exact Nat.le_refl _ | with_reducible apply le_pl | with_reducible apply le_ext | with_reducible apply le_al))) _))) g1)
  · have HC := Lib.hid (fun W (g : Grew w W) => readGraphYes a n cap ps W (hr.grew g) hn hB)
    have HL := Lib.hid hl
    by_cases hp : 0 ≤ proc ∧ proc < (csOf ps).length
    · have HE := Lib.hid (show grfReach ps proc = reachL (cOf' (csOf ps)) (csOf ps).length proc from by rw [csOf_len] at hp; simp [grfReach, thereB, hB, hp.1, hp.2])
      obtain ⟨k, rfl⟩ := Int.eq_ofNat_of_zero_le hp.1
      have hk : k < (csOf ps).length := by omega
      have h900 : (csOf ps).length ≤ 900 := by rw [csOf_len]; have := (prg_len hB).2; omega
      clear hr hl hB
      go_enter Try.func53, Try.ntmps53
      go_wp2_with fail
      refine (HC.out _ (by repeat (first | with_reducible exact Below.refl _ _ | with_reducible assumption | with_reducible apply grew_ext | with_reducible apply grew_al | with_reducible apply grew_dn | with_reducible apply grew_d | (with_reducible refine grew_set ?_ (by first | omega | (repeat (first | with_reducible exact Nat.le_refl _ | with_reducible apply le_pl | with_reducible apply le_ext | with_reducible apply le_al))) _)))).mono ?_
      rintro e w1 ⟨gb, rfl, hg, g1⟩
      obtain ⟨b, off, cp, la, lc, q1, q2, q3⟩ := gr_call hg hk
      have HG := Lib.hid hg
      have HG1 := Lib.hid (grew_tr (show Grew w (w.alloc (.cells #[.slice a n cap] 49)) from grew_al (Below.refl _ _) _) g1)
      have Q3 := Lib.hid (owns_mono q3 (show w.heap.size ≤ _ from by simp))
      have hD := fun W => below (k : Int) (csOf ps).length W
      rw [decide_eq_true (by omega), decide_eq_true (by omega)] at hD
      have HD := Lib.hid hD
      clear hg g1 q3 hD
      go_wp2_with ((with_reducible refine (HD.out _).mono ?_); rintro e w' ⟨rfl, rfl⟩)
      refine (reached gb k (csOf ps) _ HG.out.gr (by omega)).mono ?_
      rintro e w2 ⟨A2, c2, rfl, o2, g2⟩
      have O2 := Lib.hid (owns_mono o2 HG1.out.size)
      have G2 := Lib.hid (grew_tr HG1.out g2)
      clear o2 g2
      go_wp2
      go_ret
      rw [HE.out]
      exact ⟨A2, c2, rfl, O2.out, G2.out⟩
    · have HE := Lib.hid (show grfReach ps proc = [] from by
        rw [csOf_len] at hp
        have : thereB ps proc = false := by simp [thereB, hB]; omega
        simp [grfReach, this])
      have hD := fun W => below proc (csOf ps).length W
      have hz : (decide (0 ≤ proc) && decide (proc < ((csOf ps).length : Int))) = false := by simp; omega
      rw [hz] at hD
      have HD := Lib.hid hD
      clear hr hl hB hp hD hz
      go_enter Try.func53, Try.ntmps53
      go_wp2_with fail
      refine (HC.out _ (by repeat (first | with_reducible exact Below.refl _ _ | with_reducible assumption | with_reducible apply grew_ext | with_reducible apply grew_al | with_reducible apply grew_dn | with_reducible apply grew_d | (with_reducible refine grew_set ?_ (by first | omega | (repeat (first | with_reducible exact Nat.le_refl _ | with_reducible apply le_pl | with_reducible apply le_ext | with_reducible apply le_al))) _)))).mono ?_
      rintro e w1 ⟨gb, rfl, hg, g1⟩
      obtain ⟨ca, cc, q1, -, -⟩ := hg.gr.c
      have HG1 := Lib.hid (grew_tr (show Grew w (w.alloc (.cells #[.slice a n cap] 49)) from grew_al (Below.refl _ _) _) g1)
      clear hg g1
      go_wp2_with ((with_reducible refine (HD.out _).mono ?_); rintro e w' ⟨rfl, rfl⟩)
      go_ret
      rw [HE.out]
      exact retIs_nil HG1.out

/-- GrfPart. -/
def grfPart (ps : List Prc) (proc : Int) : List Int := if thereB ps proc then partL (cOf' (csOf ps)) (csOf ps).length proc else []
set_option maxHeartbeats 1000000 in
theorem specGrfPart (a : Option Addr) (n cap : Nat) (ps : List Prc) (proc : Int) (w : World) (hr : RdP w a n ps) (hn : n ≤ 9223372036854775807) :
    Calls Try.prog 57 #[.agg #[.slice a n cap], .int .i64 proc] w (RetIs (grfPart ps proc) w) := by
  have hl := hr.len
  have C := fun W (g : Grew w W) => l6There a n cap ps proc W (hr.grew g) hn
  cases hT : thereB ps proc
  · rw [hT] at C
    have HC := Lib.hid C; clear C
    have HE := Lib.hid (show grfPart ps proc = [] from by simp [grfPart, hT])
    clear hT hr hl
    go_enter Try.func57, Try.ntmps57
    go_wp2_with ((with_reducible refine (HC.out _ (by repeat (first | with_reducible exact Below.refl _ _ | with_reducible assumption | with_reducible apply grew_ext | with_reducible apply grew_al | with_reducible apply grew_dn | with_reducible apply grew_d | (with_reducible refine grew_set ?_ (by first | omega | (repeat (first | with_reducible exact Nat.le_refl _ | with_reducible apply le_pl | with_reducible apply le_ext | with_reducible apply le_al))) _)))).mono ?_); rintro e w' ⟨rfl, g'⟩; (first | obtain ⟨y, rfl⟩ := ext_cold g' | obtain ⟨y, rfl⟩ := ext_col g' | obtain ⟨y, rfl⟩ := ext_of g'); clear g')
    go_ret
    rw [HE.out]
    exact retIs_lit _ (by simp) (by repeat (first | with_reducible exact Below.refl _ _ | with_reducible assumption | with_reducible apply grew_ext | with_reducible apply grew_al | with_reducible apply grew_dn | with_reducible apply grew_d | (with_reducible refine grew_set ?_ (by first | omega | (repeat (first | with_reducible exact Nat.le_refl _ | with_reducible apply le_pl | with_reducible apply le_ext | with_reducible apply le_al))) _)))
  · rw [hT] at C
    have HC := Lib.hid C; clear C
    obtain ⟨hB, h0, h1⟩ := thereB_yes hT
    have HE := Lib.hid (show grfPart ps proc = partL (cOf' (csOf ps)) (csOf ps).length proc from by simp [grfPart, hT])
    have HD := Lib.hid (fun W (g : Grew w W) => l6Part a n cap ps proc W (hr.grew g) hn hB ⟨h0, by rw [hl] at h1; exact h1⟩)
    clear hT hr hl hB h0 h1
    go_enter Try.func57, Try.ntmps57
    go_wp2_with fail
    refine (HC.out _ (by repeat (first | with_reducible exact Below.refl _ _ | with_reducible assumption | with_reducible apply grew_ext | with_reducible apply grew_al | with_reducible apply grew_dn | with_reducible apply grew_d | (with_reducible refine grew_set ?_ (by first | omega | (repeat (first | with_reducible exact Nat.le_refl _ | with_reducible apply le_pl | with_reducible apply le_ext | with_reducible apply le_al))) _)))).mono ?_
    rintro e w1 ⟨rfl, g1⟩
    have hb1 : w1.cell? ⟨w.heap.size, 0, none⟩ = some (.slice a n cap) := (g1.cell (p := ⟨w.heap.size, 0, none⟩) (by simp)).trans (by simp [go_sem])
    have hg1 : Grew w w1 := grew_tr (grew_al (Below.refl _ _) _) g1
    go_wp2_with fail
    refine (HD.out _ hg1).mono ?_
    rintro e w2 ⟨A, c, rfl, o2, g2⟩
    have O2 := Lib.hid (owns_mono o2 hg1.size)
    have G2 := Lib.hid (grew_tr hg1 g2)
    clear o2 g2 g1 hg1 hb1
    go_wp2
    go_ret
    rw [HE.out]
    exact ⟨A, c, rfl, O2.out, G2.out⟩
set_option maxHeartbeats 1000000 in
theorem implGrfPart (a : Option Addr) (n cap : Nat) (ps : List Prc) (proc : Int) (w : World) (hr : RdP w a n ps) (hn : n ≤ 9223372036854775807) :
    Calls Try.prog 56 #[.agg #[.slice a n cap], .int .i64 proc] w (RetIs (grfPart ps proc) w) := by
  have hl := hr.len
  cases hB : prgOkB ps
  · have HC := Lib.hid (fun W (g : Grew w W) => readGraphNo a n cap ps W (hr.grew g) hn hB)
    have HE := Lib.hid (show grfPart ps proc = [] from by simp [grfPart, thereB, hB])
    clear hB hr hl
    go_enter Try.func56, Try.ntmps56
    go_wp2_with fail
    refine (HC.out _ (by repeat (first | with_reducible exact Below.refl _ _ | with_reducible assumption | with_reducible apply grew_ext | with_reducible apply grew_al | with_reducible apply grew_dn | with_reducible apply grew_d | (with_reducible refine grew_set ?_ (by first | omega | (repeat (first | with_reducible exact Nat.le_refl _ | with_reducible apply le_pl | with_reducible apply le_ext | with_reducible apply le_al))) _)))).mono ?_
    rintro e w1 ⟨rfl, g1⟩
    go_wp2
    go_ret
    rw [HE.out]
    exact retIs_nil (grew_tr (by repeat (first | with_reducible exact Below.refl _ _ | with_reducible assumption | with_reducible apply grew_ext | with_reducible apply grew_al | with_reducible apply grew_dn | with_reducible apply grew_d | (with_reducible refine grew_set ?_ (by first | omega | (repeat (first | with_reducible exact Nat.le_refl _ | with_reducible apply le_pl | with_reducible apply le_ext | with_reducible apply le_al))) _))) g1)
  · have HC := Lib.hid (fun W (g : Grew w W) => readGraphYes a n cap ps W (hr.grew g) hn hB)
    have HL := Lib.hid hl
    by_cases hp : 0 ≤ proc ∧ proc < (csOf ps).length
    · have HE := Lib.hid (show grfPart ps proc = partL (cOf' (csOf ps)) (csOf ps).length proc from by rw [csOf_len] at hp; simp [grfPart, thereB, hB, hp.1, hp.2])
      obtain ⟨k, rfl⟩ := Int.eq_ofNat_of_zero_le hp.1
      have hk : k < (csOf ps).length := by omega
      have h900 : (csOf ps).length ≤ 900 := by rw [csOf_len]; have := (prg_len hB).2; omega
      clear hr hl hB
      go_enter Try.func56, Try.ntmps56
      go_wp2_with fail
      refine (HC.out _ (by repeat (first | with_reducible exact Below.refl _ _ | with_reducible assumption | with_reducible apply grew_ext | with_reducible apply grew_al | with_reducible apply grew_dn | with_reducible apply grew_d | (with_reducible refine grew_set ?_ (by first | omega | (repeat (first | with_reducible exact Nat.le_refl _ | with_reducible apply le_pl | with_reducible apply le_ext | with_reducible apply le_al))) _)))).mono ?_
      rintro e w1 ⟨gb, rfl, hg, g1⟩
      obtain ⟨b, off, cp, la, lc, q1, q2, q3⟩ := gr_call hg hk
      have HG := Lib.hid hg
      have HG1 := Lib.hid (grew_tr (show Grew w (w.alloc (.cells #[.slice a n cap] 49)) from grew_al (Below.refl _ _) _) g1)
      have Q3 := Lib.hid (owns_mono q3 (show w.heap.size ≤ _ from by simp))
      have hD := fun W => below (k : Int) (csOf ps).length W
      rw [decide_eq_true (by omega), decide_eq_true (by omega)] at hD
      have HD := Lib.hid hD
      clear hg g1 q3 hD
      go_wp2_with ((with_reducible refine (HD.out _).mono ?_); rintro e w' ⟨rfl, rfl⟩)
      refine (grPart gb k (csOf ps) _ HG.out.gr (by omega)).mono ?_
      rintro e w2 ⟨A2, c2, rfl, o2, g2⟩
      have O2 := Lib.hid (owns_mono o2 HG1.out.size)
      have G2 := Lib.hid (grew_tr HG1.out g2)
      clear o2 g2
      go_wp2
      go_ret
      rw [HE.out]
      exact ⟨A2, c2, rfl, O2.out, G2.out⟩
    · have HE := Lib.hid (show grfPart ps proc = [] from by
        rw [csOf_len] at hp
        have : thereB ps proc = false := by simp [thereB, hB]; omega
        simp [grfPart, this])
      have hD := fun W => below proc (csOf ps).length W
      have hz : (decide (0 ≤ proc) && decide (proc < ((csOf ps).length : Int))) = false := by simp; omega
      rw [hz] at hD
      have HD := Lib.hid hD
      clear hr hl hB hp hD hz
      go_enter Try.func56, Try.ntmps56
      go_wp2_with fail
      refine (HC.out _ (by repeat (first | with_reducible exact Below.refl _ _ | with_reducible assumption | with_reducible apply grew_ext | with_reducible apply grew_al | with_reducible apply grew_dn | with_reducible apply grew_d | (with_reducible refine grew_set ?_ (by first | omega | (repeat (first | with_reducible exact Nat.le_refl _ | with_reducible apply le_pl | with_reducible apply le_ext | with_reducible apply le_al))) _)))).mono ?_
      rintro e w1 ⟨gb, rfl, hg, g1⟩
      obtain ⟨ca, cc, q1, -, -⟩ := hg.gr.c
      have HG1 := Lib.hid (grew_tr (show Grew w (w.alloc (.cells #[.slice a n cap] 49)) from grew_al (Below.refl _ _) _) g1)
      clear hg g1
      go_wp2_with ((with_reducible refine (HD.out _).mono ?_); rintro e w' ⟨rfl, rfl⟩)
      go_ret
      rw [HE.out]
      exact retIs_nil HG1.out

theorem grfCalls_len (ps : List Prc) (proc : Int) : (grfCalls ps proc).length ≤ 10 := by
  unfold grfCalls
  cases h : thereB ps proc
  · simp
  · exact cs_len (thereB_yes h).1 _
theorem grfReach_len (ps : List Prc) (proc : Int) : (grfReach ps proc).length ≤ 10 := by
  unfold grfReach
  cases h : thereB ps proc
  · simp
  · obtain ⟨h1, h2⟩ := thereB_yes h
    have := (reach_pl (gok_of h1) (a := proc) (by rw [csOf_len]; exact h2)).len
    have h4 := (prg_len h1).2
    rw [if_pos rfl]
    rw [csOf_len] at this ⊢
    omega
theorem grfPart_len (ps : List Prc) (proc : Int) : (grfPart ps proc).length ≤ 10 := by
  unfold grfPart
  cases h : thereB ps proc
  · simp
  · obtain ⟨h1, h2⟩ := thereB_yes h
    have := (part_pl (gok_of h1) (a := proc) (by rw [csOf_len]; exact h2)).len
    have h4 := (prg_len h1).2
    rw [if_pos rfl]
    rw [csOf_len] at this ⊢
    omega
end Go.Proofs.Ytnjoofpllhbccaa
