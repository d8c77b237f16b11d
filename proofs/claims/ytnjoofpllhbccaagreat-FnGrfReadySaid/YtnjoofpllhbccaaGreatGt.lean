/- The three questions of one procedure: whom it calls, what can be come to, its part; reference and program. No condition. -/
import Derived.Test.YtnjoofpllhbccaaGreatGs3
namespace Go.Proofs.YtnjoofpllhbccaaGreat
open Go.RowKit
set_option linter.unusedVariables false
set_option linter.unusedSimpArgs false
attribute [local go_sem] ext_cell ext_frozen ext_lt ext_le ext_le1 lt_s2 lt_s3 lt_s4 lt_s5 lt_s6 ext_lt1 ext_lt2 ext_lt3

/-- Whether a program is ok, and has a procedure. -/
def thereB (ps : List Prc) (proc : Int) : Bool := prgOkB ps && (decide (0 ≤ proc) && decide (proc < ps.length))
theorem thereB_yes {ps : List Prc} {proc : Int} (h : thereB ps proc = true) : prgOkB ps = true ∧ 0 ≤ proc ∧ proc < ps.length := by simpa [thereB] using h
/-- A test that makes memory at most. -/
def RetTG (b : Bool) (w : World) (e : Ending) (w' : World) : Prop := e = .returned (.bool b) ∧ Grew w w'
theorem retIs_nil {w w' : World} (g : Grew w w') : RetIs [] w (.returned (.slice none 0 0)) w' := ⟨none, 0, rfl, World.ownsRow_nil _ _ _ _, g⟩
theorem retIs_lit {w W : World} (b : Nat) (hb : b = W.heap.size) (g : Grew w W) : RetIs [] w (.returned (.slice (some ⟨b, 0, none⟩) 0 0)) (W.alloc (.cells #[] 3)) := by
  subst hb
  exact ⟨_, _, rfl, by simpa [ints] using World.ownsRow_lit W (e := 3) (size := 1) #[] 0 (base := w.heap.size) g.size (Nat.zero_le _) rfl, g.alloc g.size _⟩
/-- A call's own row out of an owned graph. -/
theorem gr_call {w : World} {B gb k : Nat} {cs parts : List (List Int)} (h : GrOwn w B gb cs parts) (hk : k < cs.length) : ∃ b off cp la lc, w.cell? ⟨gb, 1, none⟩ = some (.slice (some ⟨b, off, none⟩) cs.length cp) ∧ w.cell? ⟨b, off + k, none⟩ = some (.slice la (cOf' cs k).length lc) ∧
    w.ownsRow B 3 1 (.slice la (cOf' cs k).length lc) (cOf' cs k).length (ints .i64 (cOf' cs k)) := by
  obtain ⟨⟨x, cv, pv, cms, pms, h1, h2, h3, h4, h5⟩, h6, h7, h8⟩ := h
  obtain ⟨A, cp, rfl⟩ := owns_slice h2.row
  have hl : cms.length = cs.length := by rw [← h3]; simp
  have hr := owns_rd h2.row
  rcases hr.2 with e | ⟨b, off, rfl, hc⟩
  · have := congrArg List.length e
    simp only [List.length_map, List.length_nil] at this
    omega
  · have hm : cms[k]? = some (cms[k]'(by omega)) := List.getElem?_eq_getElem _
    have ho := h2.each _ (List.mem_of_getElem? hm)
    have e1 : cOf' cs (k : Int) = (cms[k]'(by omega)).1 := by
      have : cs[k]? = some (cms[k]'(by omega)).1 := by
        have h := congrArg (fun l => l[k]?) h3
        simp only [List.getElem?_map, hm] at h
        exact h.symm
      simp [cOf', this]
    obtain ⟨la, lc, hv⟩ := owns_slice ho
    have h9 : w.cell? ⟨b, off + k, none⟩ = some (cms[k]'(by omega)).2 := hc k _ (by rw [List.getElem?_map, hm]; rfl)
    rw [hv] at ho h9
    rw [e1]
    exact ⟨b, off, cp, la, lc, by rw [← hl]; exact h1.cell 1, h9, ho⟩

/-- GrfCalls. -/
def grfCalls (ps : List Prc) (proc : Int) : List Int := if thereB ps proc then cOf' (csOf ps) proc else []
set_option maxHeartbeats 1000000 in
theorem implGrfCalls (a : Option Addr) (n cap : Nat) (ps : List Prc) (proc : Int) (w : World) (hr : RdP w a n ps) (hn : n ≤ 9223372036854775807) :
    Calls Tryz.prog 13 #[.agg #[.slice a n cap], .int .i64 proc] w (RetIs (grfCalls ps proc) w) := by
  have hl := hr.len
  cases hB : prgOkB ps
  · have HC := Lib.hid (fun W (g : Grew w W) => readGraphNo a n cap ps W (hr.grew g) hn hB)
    have HE := Lib.hid (show grfCalls ps proc = [] from by simp [grfCalls, thereB, hB])
    clear hB hr hl
    go_enter Tryz.func13, Tryz.ntmps13
    go_wp2_with fail
    refine (HC.out _ (by repeat (first | with_reducible exact Below.refl _ _ | with_reducible assumption | with_reducible apply grew_ext | with_reducible apply grew_al | with_reducible apply grew_dn | with_reducible apply grew_d | (with_reducible refine grew_set ?_ (by first | omega | (repeat (first | with_reducible exact Nat.le_refl _ | with_reducible apply le_pl | with_reducible apply le_ext | with_reducible apply le_al))) _)))).mono ?_
    rintro e w1 ⟨rfl, g1⟩
    go_wp2
    go_ret
    rw [HE.out]
    exact retIs_nil (grew_tr (by repeat (first | with_reducible exact Below.refl _ _ | with_reducible assumption | with_reducible apply grew_ext | with_reducible apply grew_al | with_reducible apply grew_dn | with_reducible apply grew_d | (with_reducible refine grew_set ?_ (by first | omega | (repeat (first | with_reducible exact Nat.le_refl _ | with_reducible apply le_pl | with_reducible apply le_ext | with_reducible apply le_al))) _))) g1)
  · have HC := Lib.hid (fun W (g : Grew w W) => readGraphYes a n cap ps W (hr.grew g) hn hB)
    have HL := Lib.hid hl
    by_cases hp : 0 ≤ proc ∧ proc < (csOf ps).length
    · have HE := Lib.hid (show grfCalls ps proc = cOf' (csOf ps) proc from by rw [csOf_len] at hp; simp [grfCalls, thereB, hB, hp.1, hp.2])
      obtain ⟨k, rfl⟩ := Int.eq_ofNat_of_zero_le hp.1
      have hk : k < (csOf ps).length := by omega
      have h900 : (csOf ps).length ≤ 900 := by rw [csOf_len]; have := (prg_len hB).2; omega
      clear hr hl hB
      go_enter Tryz.func13, Tryz.ntmps13
      go_wp2_with fail
      refine (HC.out _ (by repeat (first | with_reducible exact Below.refl _ _ | with_reducible assumption | with_reducible apply grew_ext | with_reducible apply grew_al | with_reducible apply grew_dn | with_reducible apply grew_d | (with_reducible refine grew_set ?_ (by first | omega | (repeat (first | with_reducible exact Nat.le_refl _ | with_reducible apply le_pl | with_reducible apply le_ext | with_reducible apply le_al))) _)))).mono ?_
      rintro e w1 ⟨gb, rfl, hg, g1⟩
      obtain ⟨b, off, cp, la, lc, q1, q2, q3⟩ := gr_call hg hk
      have HG := Lib.hid hg
      have HG1 := Lib.hid (grew_tr (show Grew w (w.alloc (.cells #[.slice a n cap] 25)) from grew_al (Below.refl _ _) _) g1)
      have Q3 := Lib.hid (owns_mono q3 (show w.heap.size ≤ _ from by simp))
      have hD := fun W => below (k : Int) (csOf ps).length W
      rw [decide_eq_true (by omega), decide_eq_true (by omega)] at hD
      have HD := Lib.hid hD
      clear hg g1 q3 hD
      go_wp2_with ((with_reducible refine (HD.out _).mono ?_); rintro e w' ⟨rfl, rfl⟩)
      go_ret
      rw [HE.out]
      exact ⟨la, lc, rfl, Q3.out, HG1.out⟩
    · have HE := Lib.hid (show grfCalls ps proc = [] from by
        rw [csOf_len] at hp
        have : thereB ps proc = false := by simp [thereB, hB]; omega
        simp [grfCalls, this])
      have hD := fun W => below proc (csOf ps).length W
      have hz : (decide (0 ≤ proc) && decide (proc < ((csOf ps).length : Int))) = false := by simp; omega
      rw [hz] at hD
      have HD := Lib.hid hD
      clear hr hl hB hp hD hz
      go_enter Tryz.func13, Tryz.ntmps13
      go_wp2_with fail
      refine (HC.out _ (by repeat (first | with_reducible exact Below.refl _ _ | with_reducible assumption | with_reducible apply grew_ext | with_reducible apply grew_al | with_reducible apply grew_dn | with_reducible apply grew_d | (with_reducible refine grew_set ?_ (by first | omega | (repeat (first | with_reducible exact Nat.le_refl _ | with_reducible apply le_pl | with_reducible apply le_ext | with_reducible apply le_al))) _)))).mono ?_
      rintro e w1 ⟨gb, rfl, hg, g1⟩
      obtain ⟨ca, cc, q1, -, -⟩ := hg.gr.c
      have HG1 := Lib.hid (grew_tr (show Grew w (w.alloc (.cells #[.slice a n cap] 25)) from grew_al (Below.refl _ _) _) g1)
      clear hg g1
      go_wp2_with ((with_reducible refine (HD.out _).mono ?_); rintro e w' ⟨rfl, rfl⟩)
      go_ret
      rw [HE.out]
      exact retIs_nil HG1.out

/-- GrfReach. -/
def grfReach (ps : List Prc) (proc : Int) : List Int := if thereB ps proc then reachL (cOf' (csOf ps)) (csOf ps).length proc else []
/-- GrfPart. -/
def grfPart (ps : List Prc) (proc : Int) : List Int := if thereB ps proc then partL (cOf' (csOf ps)) (csOf ps).length proc else []
theorem grfCalls_len (ps : List Prc) (proc : Int) : (grfCalls ps proc).length ≤ 10 := by
  unfold grfCalls
  cases h : thereB ps proc
  · simp
  · exact cs_len (thereB_yes h).1 _
theorem grfReach_len (ps : List Prc) (proc : Int) : (grfReach ps proc).length ≤ 10 := by
  unfold grfReach
  cases h : thereB ps proc
  · simp
  · obtain ⟨h1, h2⟩ := thereB_yes h
    have := (reach_pl (gok_of h1) (a := proc) (by rw [csOf_len]; exact h2)).len
    have h4 := (prg_len h1).2
    rw [if_pos rfl]
    rw [csOf_len] at this ⊢
    omega
theorem grfPart_len (ps : List Prc) (proc : Int) : (grfPart ps proc).length ≤ 10 := by
  unfold grfPart
  cases h : thereB ps proc
  · simp
  · obtain ⟨h1, h2⟩ := thereB_yes h
    have := (part_pl (gok_of h1) (a := proc) (by rw [csOf_len]; exact h2)).len
    have h4 := (prg_len h1).2
    rw [if_pos rfl]
    rw [csOf_len] at this ⊢
    omega
end Go.Proofs.YtnjoofpllhbccaaGreat
