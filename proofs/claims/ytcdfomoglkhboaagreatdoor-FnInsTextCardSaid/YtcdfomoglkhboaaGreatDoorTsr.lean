/- The reference's reader of a line. No condition. -/
import Derived.Test.YtcdfomoglkhboaaGreatDoorTss
import Derived.Test.YtcdfomoglkhboaaGreatDoorTxF
namespace Go.Proofs.YtcdfomoglkhboaaGreatDoor
open Go.RowKit Go.Lib
set_option linter.unusedVariables false
set_option linter.unusedSimpArgs false
attribute [local go_sem] ext_cell ext_frozen ext_lt ext_le ext_le1 lt_s2 lt_s3 lt_s4 lt_s5 lt_s6 ext_lt1 ext_lt2 ext_lt3

theorem words_len : ∀ (s w y : List UInt8), y ∈ wordsFrom w s → y.length ≤ w.length + s.length := by
  intro s
  induction s with
  | nil => intro w y h; simp only [wordsFrom, List.mem_singleton] at h; rw [h]; simp
  | cons c s ih =>
    intro w y h
    rw [wordsFrom] at h
    by_cases hc : c = 32
    · rw [if_pos hc, List.mem_cons] at h
      rcases h with rfl | h
      · simp only [List.length_cons]; omega
      · have := ih [] y h
        simp only [List.length_cons, List.length_nil] at *; omega
    · rw [if_neg hc] at h
      have := ih _ y h
      simp only [List.length_append, List.length_cons, List.length_nil] at *; omega
theorem words_cnt : ∀ (s w : List UInt8), (wordsFrom w s).length ≤ s.length + 1 := by
  intro s
  induction s with
  | nil => intro w; simp [wordsFrom]
  | cons c s ih =>
    intro w
    rw [wordsFrom]
    split
    · have := ih []
      simp only [List.length_cons]; omega
    · have := ih (w ++ [c])
      simp only [List.length_cons]; omega
theorem split_short (s y : List UInt8) (h : y ∈ split s [32]) : y.length ≤ s.length := by
  rw [split_words _ s (Nat.lt_succ_self _)] at h
  have := words_len s [] y h
  simpa using this
theorem split_cnt (s : List UInt8) : (split s [32]).length ≤ s.length + 1 := by
  rw [split_words _ s (Nat.lt_succ_self _)]
  exact words_cnt s []
theorem atS_short (s : List UInt8) (k : Nat) : (atS (split s [32]) k).length ≤ s.length := by
  unfold atS
  rw [List.getD_eq_getElem?_getD]
  cases h : (split s [32])[k]? with
  | none => simp
  | some y => exact split_short s y (List.mem_of_getElem? h)

set_option maxRecDepth 100000 in
theorem specReadA (s : List UInt8) (procs size : Int) (w : World) (hs : 60 < s.length) :
    Calls Tryz.prog 15 #[.string ⟨s.toArray⟩, .int .i64 procs, .int .i64 size] w fun e w' => e = .returned (insV none) ∧ Grew w w' := by
  have hs' : (60 : Int) < (s.length : Int) := by omega
  go_enter Tryz.func15, Tryz.ntmps15
  go_wp2_with fail
  go_returns
  exact ⟨rfl, gr⟩

set_option maxRecDepth 100000 in
set_option maxHeartbeats 8000000 in
theorem specReadB (s : List UInt8) (procs size : Int) (w : World) (hs : s.length ≤ 60) (ws : List (List UInt8)) (hws : split s [32] = ws) (i : Ins) (hi : stepS ws = i) :
    Calls Tryz.prog 15 #[.string ⟨s.toArray⟩, .int .i64 procs, .int .i64 size] w fun e w' => e = .returned (insV (insReadS s procs size)) ∧ Grew w w' := by
  have hl60 : ¬ (60 : Int) < (s.length : Int) := by omega
  have CW := Lib.hid fun w => specWords s w (by omega)
  have CS := Lib.hid fun a c w hr => specStep a c (split s [32]) w hr (fun k => by have := atS_short s k; omega)
  have hto : i.to ≤ 9223372036854775807 := by
    have := numOkB_iff.1 (stepS_to ws)
    rw [hi] at this
    omega
  have CT := Lib.hid fun w => specInsText i procs size w hto
  obtain ⟨res, hres⟩ : ∃ res, insReadS s procs size = res := ⟨_, rfl⟩
  have HRES := Lib.hid hres
  unfold insReadS at hres
  rw [hws, hi] at hres
  rw [HRES.out]
  rw [hws, hi] at CS
  rw [hws] at CW
  clear HRES hs hws hi hto
  obtain ⟨op, d, a, bI, rel, lo, hi, tv⟩ := i
  generalize hT : textB ⟨op, d, a, bI, rel, lo, hi, tv⟩ procs size = tx at *
  clear hT
  simp only [insA] at CS
  have HRES := Lib.hid hres
  clear hres
  go_enter Tryz.func15, Tryz.ntmps15
  go_wp2_with fail
  have HB := Lib.hid (Blk.new w 38 #[.int .i64 0, .int .i64 0, .int .i64 0, .int .i64 0, .int .i64 0, .int .i64 0, .int .i64 0, .int .i64 0])
  have HG := Lib.hid (grew_al (Below.refl _ w) (.cells #[.int .i64 0, .int .i64 0, .int .i64 0, .int .i64 0, .int .i64 0, .int .i64 0, .int .i64 0, .int .i64 0] 38))
  refine (CW.out _).mono ?_
  rintro e w1 ⟨a1, c1, rfl, ho, g1⟩
  have HR1 := Lib.hid (owns_rd ho)
  have HB1 := Lib.hid (HB.out.grew g1)
  have HG1 := Lib.hid (grew_tr HG.out g1)
  clear g1 ho HB HG CW
  go_wp2_with fail
  refine (CS.out _ _ _ HR1.out).mono ?_
  rintro e w2 ⟨rfl, g2⟩
  have HB2 := Lib.hid (HB1.out.grew g2)
  have HG2 := Lib.hid (grew_tr HG1.out g2)
  clear g2 HB1 HG1 HR1 CS
  have HI2 := Lib.hid (Blk.new w2 38 #[.int .i64 op, .int .i64 d, .int .i64 a, .int .i64 bI, .int .i64 rel, .int .i64 lo, .int .i64 hi, .int .i64 tv])
  go_wp2_with fail
  refine Calls.mono (CT.out _) ?_
  rintro e w3 ⟨rfl, g3⟩
  have HB3 := Lib.hid ((HB2.out.alloc (.cells #[.int .i64 op, .int .i64 d, .int .i64 a, .int .i64 bI, .int .i64 rel, .int .i64 lo, .int .i64 hi, .int .i64 tv] 38)).grew g3)
  have HG3 := Lib.hid (grew_tr (grew_al HG2.out (.cells #[.int .i64 op, .int .i64 d, .int .i64 a, .int .i64 bI, .int .i64 rel, .int .i64 lo, .int .i64 hi, .int .i64 tv] 38)) g3)
  have HI3 := Lib.hid (HI2.out.grew g3)
  clear g3 HB2 HG2 HI2 CT
  have z := fun j => HB3.out.cell j
  have zl := HB3.out.lt
  have zf := fun j => HB3.out.frozen j
  have y := fun j => HI3.out.cell j
  have yl := HI3.out.lt
  have z0 := z 0
  have z1 := z 1
  have z2 := z 2
  have z3 := z 3
  have z4 := z 4
  have z5 := z 5
  have z6 := z 6
  have z7 := z 7
  simp only [List.getElem?_toArray, List.getElem?_cons_zero, List.getElem?_cons_succ] at z0 z1 z2 z3 z4 z5 z6 z7
  have y0 := y 0
  have y1 := y 1
  have y2 := y 2
  have y3 := y 3
  have y4 := y 4
  have y5 := y 5
  have y6 := y 6
  have y7 := y 7
  simp only [List.getElem?_toArray, List.getElem?_cons_zero, List.getElem?_cons_succ] at y0 y1 y2 y3 y4 y5 y6 y7
  clear z y
  by_cases h0 : tx = []
  · have HV : Hid (insV res = insV none) := Lib.hid (by rw [← HRES.out, if_pos (.inl h0)])
    have t0 : (tx == []) = true := by rw [h0]; rfl
    clear HRES h0
    go_wp2
    refine body_letW ?_
    intro E hE
    have HBE : Blk E w.heap.size 38 #[.int .i64 0, .int .i64 0, .int .i64 0, .int .i64 0, .int .i64 0, .int .i64 0, .int .i64 0, .int .i64 0] := by rw [hE]; exact ((((((((HB3.out.set_ 0 _).set_ 1 _).set_ 2 _).set_ 3 _).set_ 4 _).set_ 5 _).set_ 6 _).set_ 7 _)
    have GE : Grew w E := by rw [hE]; repeat (first | with_reducible exact HG3.out | with_reducible refine grew_set ?_ (by exact Nat.le_refl _) _)
    clear hE
    have k0 := HBE.cell 0
    have k1 := HBE.cell 1
    have k2 := HBE.cell 2
    have k3 := HBE.cell 3
    have k4 := HBE.cell 4
    have k5 := HBE.cell 5
    have k6 := HBE.cell 6
    have k7 := HBE.cell 7
    simp only [List.getElem?_toArray, List.getElem?_cons_zero, List.getElem?_cons_succ] at k0 k1 k2 k3 k4 k5 k6 k7
    have kl := HBE.lt
    refine bodyPost_ret (by simp [results, Tryz.results15, go_sem, k0, k1, k2, k3, k4, k5, k6, k7, kl]; try rfl) rfl ?_
    exact ⟨congrArg Ending.returned HV.out.symm, GE⟩
  have t0 : (tx == []) = false := by
    cases tx with
    | nil => exact absurd rfl h0
    | cons x r => rfl
  by_cases h1 : tx = s
  · have HV : Hid (insV res = insV (some ⟨op, d, a, bI, rel, lo, hi, tv⟩)) := Lib.hid (by rw [← HRES.out, if_neg (by simp [h0, h1]; exact fun e => h0 (h1.trans e))])
    have t1 : (tx == s) = true := by rw [h1]; simp
    have t2 : (tx != s) = false := by rw [h1]; simp
    clear HRES h0 h1
    go_wp2
    refine body_letW ?_
    intro E hE
    have HBE : Blk E w.heap.size 38 #[.int .i64 op, .int .i64 d, .int .i64 a, .int .i64 bI, .int .i64 rel, .int .i64 lo, .int .i64 hi, .int .i64 tv] := by rw [hE]; exact ((((((((HB3.out.set_ 0 _).set_ 1 _).set_ 2 _).set_ 3 _).set_ 4 _).set_ 5 _).set_ 6 _).set_ 7 _)
    have GE : Grew w E := by rw [hE]; repeat (first | with_reducible exact HG3.out | with_reducible refine grew_set ?_ (by exact Nat.le_refl _) _)
    clear hE
    have k0 := HBE.cell 0
    have k1 := HBE.cell 1
    have k2 := HBE.cell 2
    have k3 := HBE.cell 3
    have k4 := HBE.cell 4
    have k5 := HBE.cell 5
    have k6 := HBE.cell 6
    have k7 := HBE.cell 7
    simp only [List.getElem?_toArray, List.getElem?_cons_zero, List.getElem?_cons_succ] at k0 k1 k2 k3 k4 k5 k6 k7
    have kl := HBE.lt
    refine bodyPost_ret (by simp [results, Tryz.results15, go_sem, k0, k1, k2, k3, k4, k5, k6, k7, kl]; try rfl) rfl ?_
    exact ⟨congrArg Ending.returned HV.out.symm, GE⟩
  · have HV : Hid (insV res = insV none) := Lib.hid (by rw [← HRES.out, if_pos (.inr h1)])
    have t1 : (tx == s) = false := by simp [h1]
    have t2 : (tx != s) = true := by simp [h1]
    clear HRES h0 h1
    go_wp2
    refine body_letW ?_
    intro E hE
    have HBE : Blk E w.heap.size 38 #[.int .i64 0, .int .i64 0, .int .i64 0, .int .i64 0, .int .i64 0, .int .i64 0, .int .i64 0, .int .i64 0] := by rw [hE]; exact ((((((((HB3.out.set_ 0 _).set_ 1 _).set_ 2 _).set_ 3 _).set_ 4 _).set_ 5 _).set_ 6 _).set_ 7 _)
    have GE : Grew w E := by rw [hE]; repeat (first | with_reducible exact HG3.out | with_reducible refine grew_set ?_ (by exact Nat.le_refl _) _)
    clear hE
    have k0 := HBE.cell 0
    have k1 := HBE.cell 1
    have k2 := HBE.cell 2
    have k3 := HBE.cell 3
    have k4 := HBE.cell 4
    have k5 := HBE.cell 5
    have k6 := HBE.cell 6
    have k7 := HBE.cell 7
    simp only [List.getElem?_toArray, List.getElem?_cons_zero, List.getElem?_cons_succ] at k0 k1 k2 k3 k4 k5 k6 k7
    have kl := HBE.lt
    refine bodyPost_ret (by simp [results, Tryz.results15, go_sem, k0, k1, k2, k3, k4, k5, k6, k7, kl]; try rfl) rfl ?_
    exact ⟨congrArg Ending.returned HV.out.symm, GE⟩

/-- The reference's reader of a line. -/
theorem specInsRead (s : List UInt8) (procs size : Int) (w : World) :
    Calls Tryz.prog 15 #[.string ⟨s.toArray⟩, .int .i64 procs, .int .i64 size] w fun e w' => e = .returned (insV (lineI s procs size)) ∧ Grew w w' := by
  rw [← lineS_eq]
  by_cases h : 60 < s.length
  · rw [if_pos h]
    exact specReadA s procs size w h
  · rw [if_neg h]
    exact specReadB s procs size w (by omega) _ rfl _ rfl
end Go.Proofs.YtcdfomoglkhboaaGreatDoor
