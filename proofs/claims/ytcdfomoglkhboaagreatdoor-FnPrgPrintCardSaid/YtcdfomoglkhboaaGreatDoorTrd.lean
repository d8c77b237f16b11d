/- The program's readers, one for each keyword. The numbers want the table of powers of ten and the two errors of a numeral. -/
import Derived.Test.YtcdfomoglkhboaaGreatDoorTsc
namespace Go.Proofs.YtcdfomoglkhboaaGreatDoor
open Go.RowKit Go.Lib
set_option linter.unusedVariables false
set_option linter.unusedSimpArgs false
attribute [local go_sem] ext_cell ext_frozen ext_lt ext_le ext_le1 lt_s2 lt_s3 lt_s4 lt_s5 lt_s6 ext_lt1 ext_lt2 ext_lt3

theorem short_one {at? : List UInt8 → Option Int} {s : Sc} (h : ShortW s.ws) : ShortW (oneP at? s).2.ws := by
  have h2 : ShortW (nextP s).2.ws := by
    obtain ⟨ws, bad⟩ := s
    cases ws with
    | nil => exact h
    | cons x r => exact fun y hy => h y (List.mem_cons_of_mem _ hy)
  unfold oneP
  split <;> exact h2
theorem short_var {s : Sc} (h : ShortW s.ws) : ShortW (varP s).2.ws := short_one h
theorem short_rel {s : Sc} (h : ShortW s.ws) : ShortW (relP s).2.ws := short_one h
theorem short_num {s : Sc} (h : ShortW s.ws) : ShortW (numP s).2.ws := short_one h

set_option maxRecDepth 100000 in
theorem rdr_any (g : Nat) (s : Sc) (w : World) (h : ScI g s w) (hs : ShortW s.ws) (E : Env w) (ha : Apart g) :
    Calls Tryz.prog 76 #[.pointer (some ⟨g, 0, none⟩)] w fun e w' => e = .returned (.iface 93 (.agg #[.int .i64 (varP s).1, .int .i64 (numP (varP s).2).1, .int .i64 (numP (numP (varP s).2).2).1])) ∧ ScI g (anyP s).2 w' ∧ Chg (fun b => b = g) w w' := by
  have HS0 := Lib.hid h
  have HH0 := Lib.hid hs
  have HE := Lib.hid E
  have HA := Lib.hid ha
  have HC0 := Lib.hid (Chg.refl (fun b => b = g) w)
  clear h hs E ha
  go_enter Tryz.func76, Tryz.ntmps76
  go_wp2_with fail
  refine Calls.mono (scVar g _ _ HS0.out) ?_
  rintro e w1 ⟨rfl, hs, hc⟩
  have HS1 := Lib.hid hs
  have HH1 := Lib.hid (short_var HH0.out)
  have HC1 := Lib.hid (chg_tr HC0.out hc)
  clear hs hc HS0 HH0 HC0
  go_wp2_with fail
  refine Calls.mono (scNum g _ _ HS1.out HH1.out (HE.out.chg HC1.out HA.out) HA.out) ?_
  rintro e w2 ⟨rfl, hs, hc⟩
  have HS2 := Lib.hid hs
  have HH2 := Lib.hid (short_num HH1.out)
  have HC2 := Lib.hid (chg_tr HC1.out hc)
  clear hs hc HS1 HH1 HC1
  go_wp2_with fail
  refine Calls.mono (scNum g _ _ HS2.out HH2.out (HE.out.chg HC2.out HA.out) HA.out) ?_
  rintro e w3 ⟨rfl, hs, hc⟩
  have HS3 := Lib.hid hs
  have HH3 := Lib.hid (short_num HH2.out)
  have HC3 := Lib.hid (chg_tr HC2.out hc)
  clear hs hc HS2 HH2 HC2
  go_wp2
  go_ret
  exact ⟨rfl, HS3.out, HC3.out⟩

set_option maxRecDepth 100000 in
theorem rdr_load (g : Nat) (s : Sc) (w : World) (h : ScI g s w) (hs : ShortW s.ws) (E : Env w) (ha : Apart g) :
    Calls Tryz.prog 79 #[.pointer (some ⟨g, 0, none⟩)] w fun e w' => e = .returned (.iface 137 (.agg #[.int .i64 (varP s).1, .int .i64 (varP (varP s).2).1])) ∧ ScI g (loadP s).2 w' ∧ Chg (fun b => b = g) w w' := by
  have HS0 := Lib.hid h
  have HH0 := Lib.hid hs
  have HE := Lib.hid E
  have HA := Lib.hid ha
  have HC0 := Lib.hid (Chg.refl (fun b => b = g) w)
  clear h hs E ha
  go_enter Tryz.func79, Tryz.ntmps79
  go_wp2_with fail
  refine Calls.mono (scVar g _ _ HS0.out) ?_
  rintro e w1 ⟨rfl, hs, hc⟩
  have HS1 := Lib.hid hs
  have HH1 := Lib.hid (short_var HH0.out)
  have HC1 := Lib.hid (chg_tr HC0.out hc)
  clear hs hc HS0 HH0 HC0
  go_wp2_with fail
  refine Calls.mono (scVar g _ _ HS1.out) ?_
  rintro e w2 ⟨rfl, hs, hc⟩
  have HS2 := Lib.hid hs
  have HH2 := Lib.hid (short_var HH1.out)
  have HC2 := Lib.hid (chg_tr HC1.out hc)
  clear hs hc HS1 HH1 HC1
  go_wp2
  go_ret
  exact ⟨rfl, HS2.out, HC2.out⟩

set_option maxRecDepth 100000 in
theorem rdr_store (g : Nat) (s : Sc) (w : World) (h : ScI g s w) (hs : ShortW s.ws) (E : Env w) (ha : Apart g) :
    Calls Tryz.prog 80 #[.pointer (some ⟨g, 0, none⟩)] w fun e w' => e = .returned (.iface 139 (.agg #[.int .i64 (varP s).1, .int .i64 (varP (varP s).2).1])) ∧ ScI g (storeP s).2 w' ∧ Chg (fun b => b = g) w w' := by
  have HS0 := Lib.hid h
  have HH0 := Lib.hid hs
  have HE := Lib.hid E
  have HA := Lib.hid ha
  have HC0 := Lib.hid (Chg.refl (fun b => b = g) w)
  clear h hs E ha
  go_enter Tryz.func80, Tryz.ntmps80
  go_wp2_with fail
  refine Calls.mono (scVar g _ _ HS0.out) ?_
  rintro e w1 ⟨rfl, hs, hc⟩
  have HS1 := Lib.hid hs
  have HH1 := Lib.hid (short_var HH0.out)
  have HC1 := Lib.hid (chg_tr HC0.out hc)
  clear hs hc HS0 HH0 HC0
  go_wp2_with fail
  refine Calls.mono (scVar g _ _ HS1.out) ?_
  rintro e w2 ⟨rfl, hs, hc⟩
  have HS2 := Lib.hid hs
  have HH2 := Lib.hid (short_var HH1.out)
  have HC2 := Lib.hid (chg_tr HC1.out hc)
  clear hs hc HS1 HH1 HC1
  go_wp2
  go_ret
  exact ⟨rfl, HS2.out, HC2.out⟩

set_option maxRecDepth 100000 in
theorem rdr_jump (g : Nat) (s : Sc) (w : World) (h : ScI g s w) (hs : ShortW s.ws) (E : Env w) (ha : Apart g) :
    Calls Tryz.prog 81 #[.pointer (some ⟨g, 0, none⟩)] w fun e w' => e = .returned (.iface 101 (.agg #[.int .i64 (numP s).1])) ∧ ScI g (jumpP s).2 w' ∧ Chg (fun b => b = g) w w' := by
  have HS0 := Lib.hid h
  have HH0 := Lib.hid hs
  have HE := Lib.hid E
  have HA := Lib.hid ha
  have HC0 := Lib.hid (Chg.refl (fun b => b = g) w)
  clear h hs E ha
  go_enter Tryz.func81, Tryz.ntmps81
  go_wp2_with fail
  refine Calls.mono (scNum g _ _ HS0.out HH0.out (HE.out.chg HC0.out HA.out) HA.out) ?_
  rintro e w1 ⟨rfl, hs, hc⟩
  have HS1 := Lib.hid hs
  have HH1 := Lib.hid (short_num HH0.out)
  have HC1 := Lib.hid (chg_tr HC0.out hc)
  clear hs hc HS0 HH0 HC0
  go_wp2
  go_ret
  exact ⟨rfl, HS1.out, HC1.out⟩

set_option maxRecDepth 100000 in
theorem rdr_call (g : Nat) (s : Sc) (w : World) (h : ScI g s w) (hs : ShortW s.ws) (E : Env w) (ha : Apart g) :
    Calls Tryz.prog 82 #[.pointer (some ⟨g, 0, none⟩)] w fun e w' => e = .returned (.iface 103 (.agg #[.int .i64 (varP s).1, .int .i64 (varP (numP (varP s).2).2).1, .int .i64 (numP (varP s).2).1])) ∧ ScI g (callP s).2 w' ∧ Chg (fun b => b = g) w w' := by
  have HS0 := Lib.hid h
  have HH0 := Lib.hid hs
  have HE := Lib.hid E
  have HA := Lib.hid ha
  have HC0 := Lib.hid (Chg.refl (fun b => b = g) w)
  clear h hs E ha
  go_enter Tryz.func82, Tryz.ntmps82
  go_wp2_with fail
  refine Calls.mono (scVar g _ _ HS0.out) ?_
  rintro e w1 ⟨rfl, hs, hc⟩
  have HS1 := Lib.hid hs
  have HH1 := Lib.hid (short_var HH0.out)
  have HC1 := Lib.hid (chg_tr HC0.out hc)
  clear hs hc HS0 HH0 HC0
  go_wp2_with fail
  refine Calls.mono (scNum g _ _ HS1.out HH1.out (HE.out.chg HC1.out HA.out) HA.out) ?_
  rintro e w2 ⟨rfl, hs, hc⟩
  have HS2 := Lib.hid hs
  have HH2 := Lib.hid (short_num HH1.out)
  have HC2 := Lib.hid (chg_tr HC1.out hc)
  clear hs hc HS1 HH1 HC1
  go_wp2_with fail
  refine Calls.mono (scVar g _ _ HS2.out) ?_
  rintro e w3 ⟨rfl, hs, hc⟩
  have HS3 := Lib.hid hs
  have HH3 := Lib.hid (short_var HH2.out)
  have HC3 := Lib.hid (chg_tr HC2.out hc)
  clear hs hc HS2 HH2 HC2
  go_wp2
  go_ret
  exact ⟨rfl, HS3.out, HC3.out⟩

set_option maxRecDepth 100000 in
theorem rdr_ret (g : Nat) (s : Sc) (w : World) (h : ScI g s w) (hs : ShortW s.ws) (E : Env w) (ha : Apart g) :
    Calls Tryz.prog 83 #[.pointer (some ⟨g, 0, none⟩)] w fun e w' => e = .returned (.iface 141 (.agg #[.int .i64 (varP s).1])) ∧ ScI g (retP s).2 w' ∧ Chg (fun b => b = g) w w' := by
  have HS0 := Lib.hid h
  have HH0 := Lib.hid hs
  have HE := Lib.hid E
  have HA := Lib.hid ha
  have HC0 := Lib.hid (Chg.refl (fun b => b = g) w)
  clear h hs E ha
  go_enter Tryz.func83, Tryz.ntmps83
  go_wp2_with fail
  refine Calls.mono (scVar g _ _ HS0.out) ?_
  rintro e w1 ⟨rfl, hs, hc⟩
  have HS1 := Lib.hid hs
  have HH1 := Lib.hid (short_var HH0.out)
  have HC1 := Lib.hid (chg_tr HC0.out hc)
  clear hs hc HS0 HH0 HC0
  go_wp2
  go_ret
  exact ⟨rfl, HS1.out, HC1.out⟩

set_option maxRecDepth 100000 in
theorem rdr_set (g : Nat) (s : Sc) (w : World) (h : ScI g s w) (hs : ShortW s.ws) (E : Env w) (ha : Apart g) :
    Calls Tryz.prog 84 #[.pointer (some ⟨g, 0, none⟩)] w fun e w' => e = .returned (.iface 93 (.agg #[.int .i64 (varP s).1, .int .i64 (numP (varP s).2).1, .int .i64 (numP (varP s).2).1])) ∧ ScI g (setP s).2 w' ∧ Chg (fun b => b = g) w w' := by
  have HS0 := Lib.hid h
  have HH0 := Lib.hid hs
  have HE := Lib.hid E
  have HA := Lib.hid ha
  have HC0 := Lib.hid (Chg.refl (fun b => b = g) w)
  clear h hs E ha
  go_enter Tryz.func84, Tryz.ntmps84
  go_wp2_with fail
  refine Calls.mono (scVar g _ _ HS0.out) ?_
  rintro e w1 ⟨rfl, hs, hc⟩
  have HS1 := Lib.hid hs
  have HH1 := Lib.hid (short_var HH0.out)
  have HC1 := Lib.hid (chg_tr HC0.out hc)
  clear hs hc HS0 HH0 HC0
  go_wp2_with fail
  refine Calls.mono (scNum g _ _ HS1.out HH1.out (HE.out.chg HC1.out HA.out) HA.out) ?_
  rintro e w2 ⟨rfl, hs, hc⟩
  have HS2 := Lib.hid hs
  have HH2 := Lib.hid (short_num HH1.out)
  have HC2 := Lib.hid (chg_tr HC1.out hc)
  clear hs hc HS1 HH1 HC1
  go_wp2
  go_ret
  exact ⟨rfl, HS2.out, HC2.out⟩

set_option maxRecDepth 100000 in
theorem rdr_if (g : Nat) (s : Sc) (w : World) (h : ScI g s w) (hs : ShortW s.ws) (E : Env w) (ha : Apart g) :
    Calls Tryz.prog 85 #[.pointer (some ⟨g, 0, none⟩)] w fun e w' => e = .returned (.iface 98 (.agg #[.int .i64 (relP (varP s).2).1, .int .i64 (varP s).1, .int .i64 (varP (relP (varP s).2).2).1, .int .i64 (numP (varP (relP (varP s).2).2).2).1])) ∧ ScI g (ifP s).2 w' ∧ Chg (fun b => b = g) w w' := by
  have HS0 := Lib.hid h
  have HH0 := Lib.hid hs
  have HE := Lib.hid E
  have HA := Lib.hid ha
  have HC0 := Lib.hid (Chg.refl (fun b => b = g) w)
  clear h hs E ha
  go_enter Tryz.func85, Tryz.ntmps85
  go_wp2_with fail
  refine Calls.mono (scVar g _ _ HS0.out) ?_
  rintro e w1 ⟨rfl, hs, hc⟩
  have HS1 := Lib.hid hs
  have HH1 := Lib.hid (short_var HH0.out)
  have HC1 := Lib.hid (chg_tr HC0.out hc)
  clear hs hc HS0 HH0 HC0
  go_wp2_with fail
  refine Calls.mono (scRel g _ _ HS1.out) ?_
  rintro e w2 ⟨rfl, hs, hc⟩
  have HS2 := Lib.hid hs
  have HH2 := Lib.hid (short_rel HH1.out)
  have HC2 := Lib.hid (chg_tr HC1.out hc)
  clear hs hc HS1 HH1 HC1
  go_wp2_with fail
  refine Calls.mono (scVar g _ _ HS2.out) ?_
  rintro e w3 ⟨rfl, hs, hc⟩
  have HS3 := Lib.hid hs
  have HH3 := Lib.hid (short_var HH2.out)
  have HC3 := Lib.hid (chg_tr HC2.out hc)
  clear hs hc HS2 HH2 HC2
  go_wp2_with fail
  refine Calls.mono (scNum g _ _ HS3.out HH3.out (HE.out.chg HC3.out HA.out) HA.out) ?_
  rintro e w4 ⟨rfl, hs, hc⟩
  have HS4 := Lib.hid hs
  have HH4 := Lib.hid (short_num HH3.out)
  have HC4 := Lib.hid (chg_tr HC3.out hc)
  clear hs hc HS3 HH3 HC3
  go_wp2
  go_ret
  exact ⟨rfl, HS4.out, HC4.out⟩

set_option maxRecDepth 100000 in
theorem rdr_assert (g : Nat) (s : Sc) (w : World) (h : ScI g s w) (hs : ShortW s.ws) (E : Env w) (ha : Apart g) :
    Calls Tryz.prog 87 #[.pointer (some ⟨g, 0, none⟩)] w fun e w' => e = .returned (.iface 105 (.agg #[.int .i64 (relP (varP s).2).1, .int .i64 (varP s).1, .int .i64 (varP (relP (varP s).2).2).1])) ∧ ScI g (assertP s).2 w' ∧ Chg (fun b => b = g) w w' := by
  have HS0 := Lib.hid h
  have HH0 := Lib.hid hs
  have HE := Lib.hid E
  have HA := Lib.hid ha
  have HC0 := Lib.hid (Chg.refl (fun b => b = g) w)
  clear h hs E ha
  go_enter Tryz.func87, Tryz.ntmps87
  go_wp2_with fail
  refine Calls.mono (scVar g _ _ HS0.out) ?_
  rintro e w1 ⟨rfl, hs, hc⟩
  have HS1 := Lib.hid hs
  have HH1 := Lib.hid (short_var HH0.out)
  have HC1 := Lib.hid (chg_tr HC0.out hc)
  clear hs hc HS0 HH0 HC0
  go_wp2_with fail
  refine Calls.mono (scRel g _ _ HS1.out) ?_
  rintro e w2 ⟨rfl, hs, hc⟩
  have HS2 := Lib.hid hs
  have HH2 := Lib.hid (short_rel HH1.out)
  have HC2 := Lib.hid (chg_tr HC1.out hc)
  clear hs hc HS1 HH1 HC1
  go_wp2_with fail
  refine Calls.mono (scVar g _ _ HS2.out) ?_
  rintro e w3 ⟨rfl, hs, hc⟩
  have HS3 := Lib.hid hs
  have HH3 := Lib.hid (short_var HH2.out)
  have HC3 := Lib.hid (chg_tr HC2.out hc)
  clear hs hc HS2 HH2 HC2
  go_wp2
  go_ret
  exact ⟨rfl, HS3.out, HC3.out⟩

set_option maxRecDepth 100000 in
theorem rdr_arith (g c : Nat) (op : Int) (s : Sc) (w : World) (h : ScI g s w) (hc : w.cell? ⟨c, 0, none⟩ = some (.int .i64 op)) (hn : c ≠ g) :
    Calls Tryz.prog 89 #[.pointer (some ⟨g, 0, none⟩), .pointer (some ⟨c, 0, none⟩)] w fun e w' =>
      e = .returned (.iface 143 (.agg #[.int .i64 op, .int .i64 (varP s).1, .int .i64 (varP (varP s).2).1, .int .i64 (varP (varP (varP s).2).2).1])) ∧ ScI g (arithP op s).2 w' ∧ Chg (fun b => b = g) w w' := by
  have hlt := World.block_lt_of_cell? w _ hc
  simp only at hlt
  have KC : Hid (∀ W W', Chg (fun b => b = g) W W' → W.cell? ⟨c, 0, none⟩ = some (.int .i64 op) → W'.cell? ⟨c, 0, none⟩ = some (.int .i64 op)) := Lib.hid (fun W W' k hk =>
    (World.cell?_of_block (k.block c (World.block_lt_of_cell? W _ hk) hn)).trans hk)
  have hS := h.grew (grew_d (Below.refl _ w))
  have hC : Chg (fun b => b = g) w w.drew := Chg.of_below (grew_d (Below.refl _ w))
  have hc0 := KC.out _ _ hC hc
  clear h hc hlt
  go_enter Tryz.func89, Tryz.ntmps89
  go_wp2_with fail
  go_region_held3 (fun W => W.cell? ⟨c, 0, none⟩ = some (.int .i64 op)) (first | assumption)
    (first
    | (go_at_call 77; refine Calls.mono (scVar g _ _ hS) ?_; rintro e w2 ⟨rfl, hS2, hC2⟩; have hc2 := KC.out _ _ hC2 hc0; have hC3 := chg_tr hC hC2; clear hS hC hC2 hc0; have hS := hS2; have hC := hC3; have hc0 := hc2; clear hS2 hC3 hc2))
  all_goals
    go_wp2
    go_ret
    exact ⟨rfl, hS, hC⟩
end Go.Proofs.YtcdfomoglkhboaaGreatDoor
