/- Lemmas and walks of this proof, some texts one behind the other. No condition. -/
import Derived.Test.YtnjoofpllhbccaaRunD
import Derived.Test.YtnjoofpllhbccaaProgEq
import Derived.Test.YtnjoofpllhbccaaState
set_option linter.unusedSimpArgs false
set_option linter.unusedVariables false
/- Runs: their copies and sizes. No condition. -/
namespace Go.Proofs.Ytnjoofpllhbccaa
open Go.RowKit
set_option linter.unusedVariables false
attribute [local go_sem] ext_cell ext_frozen ext_lt ext_le ext_le1 lt_s2 lt_s3 lt_s4 lt_s5 lt_s6 ext_lt1 ext_lt2 ext_lt3

def frCells (m : Fr × Value × Value) : List Value := [.int .i64 m.1.proc, .int .i64 m.1.pc, m.2.1, m.2.2]
theorem fr_len (m : Fr × Value × Value) : (frCells m).length = 4 := rfl
def OwnF (w : World) (B : Nat) (v : Value) (n : Nat) (ms : List (Fr × Value × Value)) : Prop :=
  ms.length = n ∧ w.ownsRow B 76 4 v n (ms.flatMap frCells) ∧ ∀ m, m ∈ ms → w.ownsRow B 3 1 m.2.1 m.1.vars.length (ints .i64 m.1.vars) ∧ w.ownsRow B 3 1 m.2.2 m.1.cells.length (ints .i64 m.1.cells)
theorem OwnF.rd {w : World} {B n cap : Nat} {a : Option Addr} {ms : List (Fr × Value × Value)} (h : OwnF w B (.slice a n cap) n ms) : RdF w a n (ms.map (·.1)) := by
  obtain ⟨hn, h1, h2⟩ := h
  have h3 := rdl_of_rd (E := fun w cs (m : Fr × Value × Value) => EFr w cs m.1) frCells (by omega) fr_len hn (owns_rd h1) (fun m hm => by
    obtain ⟨h4, h5⟩ := h2 m hm
    obtain ⟨a', c', hv⟩ := owns_slice h4
    obtain ⟨a2, c2, hv2⟩ := owns_slice h5
    rw [hv] at h4
    rw [hv2] at h5
    exact ⟨a', c', a2, c2, by rw [frCells, hv, hv2], owns_rd h4, owns_rd h5, Nat.le_trans (owns_cap h4).1 (owns_cap h4).2, Nat.le_trans (owns_cap h5).1 (owns_cap h5).2⟩)
  refine ⟨by rw [List.length_map]; exact hn, ?_⟩
  rcases h3.2 with h0 | ⟨b, off, e, hc⟩
  · exact .inl h0
  · refine .inr ⟨b, off, e, fun k p hp => ?_⟩
    rw [List.getElem?_map, Option.map_eq_some_iff] at hp
    obtain ⟨m, hm, rfl⟩ := hp
    exact hc k m hm
theorem OwnF.chg {F : Nat → Prop} {w w' : World} {B n : Nat} {v : Value} {ms : List (Fr × Value × Value)} (h : OwnF w B v n ms) (hc : Chg F w w') (hF : ∀ b, B ≤ b → b < w.heap.size → ¬ F b) : OwnF w' B v n ms :=
  ⟨h.1, owns_chg h.2.1 hc (fun b hb => hF b (h.2.1.lt b hb).1 (h.2.1.lt b hb).2), fun m hm => ⟨owns_chg (h.2.2 m hm).1 hc (fun b hb => hF b ((h.2.2 m hm).1.lt b hb).1 ((h.2.2 m hm).1.lt b hb).2), owns_chg (h.2.2 m hm).2 hc (fun b hb => hF b ((h.2.2 m hm).2.lt b hb).1 ((h.2.2 m hm).2.lt b hb).2)⟩⟩
theorem OwnF.grew {w w' : World} {B n : Nat} {v : Value} {ms : List (Fr × Value × Value)} (h : OwnF w B v n ms) (hc : Grew w w') : OwnF w' B v n ms :=
  h.chg (Chg.of_below (F := fun _ => False) hc) (fun _ _ _ hf => hf)





end Go.Proofs.Ytnjoofpllhbccaa

/- Runs: their sizes, and whether two are the same. No condition. -/
namespace Go.Proofs.Ytnjoofpllhbccaa
open Go.RowKit
set_option linter.unusedVariables false
attribute [local go_sem] ext_cell ext_frozen ext_lt ext_le ext_le1 lt_s2 lt_s3 lt_s4 lt_s5 lt_s6 ext_lt1 ext_lt2 ext_lt3







/-- Whether two calls are the same. -/
def frEqB (p q : Fr) : Bool := decide (p.proc = q.proc) && decide (p.pc = q.pc) && decide (p.vars = q.vars) && decide (p.cells = q.cells)
theorem frEqB_iff {p q : Fr} : frEqB p q = true ↔ p = q := by
  obtain ⟨a, b, c, d⟩ := p
  obtain ⟨a', b', c', d'⟩ := q
  simp [frEqB, and_assoc]

set_option maxHeartbeats 1000000 in
theorem eqRunFrame (proc pc proc' pc' : Int) (va va' ca ca' : Option Addr) (vn vc vn' vc' cn cc cn' cc' : Nat) (vs cs vs' cs' : List Int) (w : World) (h1 : Rd w va vn 1 (ints .i64 vs)) (h2 : Rd w ca cn 1 (ints .i64 cs)) (h1' : Rd w va' vn' 1 (ints .i64 vs')) (h2' : Rd w ca' cn' 1 (ints .i64 cs'))
    (n1 : vn ≤ 140737488351232) (n2 : cn ≤ 140737488351232) (n1' : vn' ≤ 140737488351232) (n2' : cn' ≤ 140737488351232) :
    Calls Try.prog 139 #[.agg #[.int .i64 proc, .int .i64 pc, .slice va vn vc, .slice ca cn cc], .agg #[.int .i64 proc', .int .i64 pc', .slice va' vn' vc', .slice ca' cn' cc']] w fun e w' => e = .returned (.bool (frEqB ⟨proc, pc, vs, cs⟩ ⟨proc', pc', vs', cs'⟩)) ∧ Grew w w' := by
  have C := fun W (h : Grew w W) => eqIntG va vn vc va' vn' vc' vs vs' W (h1.grew h) (h1'.grew h) n1 n1'
  have D := fun W (h : Grew w W) => eqIntG ca cn cc ca' cn' cc' cs cs' W (h2.grew h) (h2'.grew h) n2 n2'
  clear h1 h2 h1' h2'
  obtain ⟨B, hB⟩ : ∃ B, decide (vs = vs') = B := ⟨_, rfl⟩
  obtain ⟨E, hE⟩ : ∃ E, decide (cs = cs') = E := ⟨_, rfl⟩
  rw [hB] at C
  rw [hE] at D
  have HC := Lib.hid C; clear C
  have HD := Lib.hid D; clear D
  have HV : Hid (frEqB ⟨proc, pc, vs, cs⟩ ⟨proc', pc', vs', cs'⟩ = (decide (proc = proc') && decide (pc = pc') && B && E)) := Lib.hid (by simp only [frEqB, hB, hE])
  rw [HV.out]
  clear HV hB hE
  by_cases e1 : proc = proc'
  · subst e1
    by_cases e2 : pc = pc'
    · subst e2
      cases B <;> cases E
      all_goals
        go_enter Try.func139, Try.ntmps139
        go_wp2_with (first | ((with_reducible refine (HC.out _ (by repeat (first | with_reducible exact Below.refl _ _ | with_reducible assumption | with_reducible apply grew_ext | with_reducible apply grew_al | with_reducible apply grew_dn | with_reducible apply grew_d | (with_reducible refine grew_set ?_ (by first | omega | (repeat (first | with_reducible exact Nat.le_refl _ | with_reducible apply le_pl | with_reducible apply le_ext | with_reducible apply le_al))) _)))).mono ?_); rintro e w' ⟨rfl, g'⟩; (first | obtain ⟨y, rfl⟩ := ext_cold g' | obtain ⟨y, rfl⟩ := ext_col g' | obtain ⟨y, rfl⟩ := ext_of g'); clear g') | ((with_reducible refine (HD.out _ (by repeat (first | with_reducible exact Below.refl _ _ | with_reducible assumption | with_reducible apply grew_ext | with_reducible apply grew_al | with_reducible apply grew_dn | with_reducible apply grew_d | (with_reducible refine grew_set ?_ (by first | omega | (repeat (first | with_reducible exact Nat.le_refl _ | with_reducible apply le_pl | with_reducible apply le_ext | with_reducible apply le_al))) _)))).mono ?_); rintro e w' ⟨rfl, g'⟩; (first | obtain ⟨z, rfl⟩ := ext_cold g' | obtain ⟨z, rfl⟩ := ext_col g' | obtain ⟨z, rfl⟩ := ext_of g'); clear g'))
        go_ret
        refine ⟨by simp, ?_⟩
        repeat (first | with_reducible exact Below.refl _ _ | with_reducible assumption | with_reducible apply grew_ext | with_reducible apply grew_al | with_reducible apply grew_dn | with_reducible apply grew_d | (with_reducible refine grew_set ?_ (by first | omega | (repeat (first | with_reducible exact Nat.le_refl _ | with_reducible apply le_pl | with_reducible apply le_ext | with_reducible apply le_al))) _))
    · go_enter Try.func139, Try.ntmps139
      go_wp2
      go_ret
      refine ⟨by simp [e2], ?_⟩
      repeat (first | with_reducible exact Below.refl _ _ | with_reducible assumption | with_reducible apply grew_ext | with_reducible apply grew_al | with_reducible apply grew_dn | with_reducible apply grew_d | (with_reducible refine grew_set ?_ (by first | omega | (repeat (first | with_reducible exact Nat.le_refl _ | with_reducible apply le_pl | with_reducible apply le_ext | with_reducible apply le_al))) _))
  · go_enter Try.func139, Try.ntmps139
    go_wp2
    go_ret
    refine ⟨by simp [e1], ?_⟩
    repeat (first | with_reducible exact Below.refl _ _ | with_reducible assumption | with_reducible apply grew_ext | with_reducible apply grew_al | with_reducible apply grew_dn | with_reducible apply grew_d | (with_reducible refine grew_set ?_ (by first | omega | (repeat (first | with_reducible exact Nat.le_refl _ | with_reducible apply le_pl | with_reducible apply le_ext | with_reducible apply le_al))) _))

set_option maxHeartbeats 1000000 in
theorem eqRunFrameS (a a' : Option Addr) (n n' cap cap' : Nat) (ps qs : List Fr) (w : World) (hr : RdF w a n ps) (hr' : RdF w a' n' qs) (hn : n ≤ 9223372036854775807) (hn' : n' ≤ 9223372036854775807) (hs : ∀ p, p ∈ ps → p.vars.length ≤ 1048576 ∧ p.cells.length ≤ 1048576) (hs' : ∀ p, p ∈ qs → p.vars.length ≤ 1048576 ∧ p.cells.length ≤ 1048576) :
    Calls Try.prog 101 #[.slice a n cap, .slice a' n' cap'] w fun e w' => e = .returned (.bool (decide (ps = qs))) ∧ Grew w w' := by
  have HL := Lib.hid hr.len
  have HL' := Lib.hid hr'.len
  have HR := Lib.hid hr; clear hr
  have HS := Lib.hid hs; clear hs
  have HS' := Lib.hid hs'; clear hs'
  have HR' := Lib.hid hr'; clear hr'
  by_cases hnn : n = n'
  · subst hnn
    go_enter Try.func101, Try.ntmps101
    go_wp2
    go_loopw [5] (fun i wr => ∃ k : Nat, k ≤ n ∧ i = .int .i64 k ∧ Grew w wr ∧ ps.take k = qs.take k) (fun i _ => n - (intOf i).toNat)
    case atStart => exact ⟨0, Nat.zero_le _, rfl, Below.refl _ _, by simp⟩
    case round =>
      obtain ⟨k, hk, rfl, hg, he⟩ := hrel
      have HE := Lib.hid he; clear he
      by_cases hlt : k < n
      · obtain ⟨b, off, proc, pc, vs, cs, va, vc, ca, cc, rfl, hx, c0, c1, c2, c3, hb, hi1, hi2, hi3, hi4⟩ := rdF_at (HR.out.grew hg) hlt
        obtain ⟨b', off', proc', pc', vs', cs', va', vc', ca', cc', rfl, hx', c0', c1', c2', c3', hb', hi1', hi2', hi3', hi4'⟩ := rdF_at (HR'.out.grew hg) hlt
        have HX := Lib.hid hx; clear hx
        have HX' := Lib.hid hx'; clear hx'
        have HG := Lib.hid hg; clear hg
        have z1 := HS.out _ (List.mem_of_getElem? HX.out)
        have z2 := HS'.out _ (List.mem_of_getElem? HX'.out)
        have C := fun x => eqRunFrame proc pc proc' pc' va va' ca ca' vs.length vc vs'.length vc' cs.length cc cs'.length cc' vs cs vs' cs' (ext wr x) (hi1.grew (ext_grew _ x)) (hi2.grew (ext_grew _ x)) (hi1'.grew (ext_grew _ x)) (hi2'.grew (ext_grew _ x)) (Nat.le_trans z1.1 (by omega)) (Nat.le_trans z1.2 (by omega)) (Nat.le_trans z2.1 (by omega)) (Nat.le_trans z2.2 (by omega))
        clear hi1 hi2 hi3 hi4 hi1' hi2' hi3' hi4' z1 z2
        cases hq : frEqB ⟨proc, pc, vs, cs⟩ ⟨proc', pc', vs', cs'⟩
        · have hfin : decide (ps = qs) = false := decide_eq_false (fun e => by
            have h1 := HX.out
            rw [e, HX'.out] at h1
            have := Option.some.inj h1
            rw [this] at hq
            simp [frEqB] at hq)
          have HF := Lib.hid hfin; clear hfin
          rw [hq] at C
          have HC := Lib.hid C; clear C hq
          go_wp2_with fail
          first | refine wp_region_ext2 (by kernel_rfl) (by kernel_rfl) ?_ | refine wp_region_ext (by kernel_rfl) (by kernel_rfl) ?_
          repeat (go_big_quiet_step ((first | (with_reducible exact ext_grow (HC.out _)))))
          refine wpQuiet_nil ?_
          intro _ hw'
          obtain ⟨x, hw''⟩ := hw'
          subst hw''
          go_wp2
          go_ret
          exact ⟨by rw [HF.out]; rfl, grew_ext HG.out x⟩
        · have HQ := Lib.hid (frEqB_iff.1 hq)
          rw [hq] at C
          have HC := Lib.hid C; clear C hq
          go_wp2_with fail
          first | refine wp_region_ext2 (by kernel_rfl) (by kernel_rfl) ?_ | refine wp_region_ext (by kernel_rfl) (by kernel_rfl) ?_
          repeat (go_big_quiet_step ((first | (with_reducible exact ext_grow (HC.out _)))))
          refine wpQuiet_nil ?_
          intro _ hw'
          obtain ⟨x, hw''⟩ := hw'
          subst hw''
          go_wp2
          go_roundw
          case rel => exact ⟨k + 1, by omega, by go_num, grew_ext HG.out x, by rw [take_get HX.out, take_get HX'.out, HE.out, HQ.out]⟩
          case measure => simp [intOf]; omega
      · have HG := Lib.hid hg; clear hg
        have : ps = qs := by
          have h := HE.out
          rwa [List.take_of_length_le (by have := HL.out; omega), List.take_of_length_le (by have := HL'.out; omega)] at h
        have HF := Lib.hid (decide_eq_true this); clear this
        go_wp2
        go_ret
        exact ⟨by rw [HF.out]; rfl, HG.out⟩
  · have hfin : decide (ps = qs) = false := decide_eq_false (fun e => by
      have h1 := HL.out
      rw [e, HL'.out] at h1
      exact hnn h1.symm)
    have hb : ((n : Int) != (n' : Int)) = true := by simp; omega
    have HF := Lib.hid hfin; clear hfin hnn
    go_enter Try.func101, Try.ntmps101
    go_wp2
    go_ret
    exact ⟨by rw [HF.out]; rfl, Below.refl _ _⟩


set_option maxHeartbeats 2000000 in
theorem eqRunRun (st st' : Int) (a a' : Option Addr) (n n' cap cap' : Nat) (ps qs : List Fr) (out proc pc out' proc' pc' : Int) (w : World) (hr : RdF w a n ps) (hr' : RdF w a' n' qs) (hn : n ≤ 9223372036854775807) (hn' : n' ≤ 9223372036854775807) (hs : ∀ p, p ∈ ps → p.vars.length ≤ 1048576 ∧ p.cells.length ≤ 1048576) (hs' : ∀ p, p ∈ qs → p.vars.length ≤ 1048576 ∧ p.cells.length ≤ 1048576) :
    Calls Try.prog 37 #[.agg #[.int .i64 st, .slice a n cap, .int .i64 out, .int .i64 proc, .int .i64 pc], .agg #[.int .i64 st', .slice a' n' cap', .int .i64 out', .int .i64 proc', .int .i64 pc']] w fun e w' => e = .returned (.bool (decide ((⟨st, ps, out, proc, pc⟩ : Ru) = ⟨st', qs, out', proc', pc'⟩))) ∧ Grew w w' := by
  have C := fun W (h : Grew w W) => eqRunFrameS a a' n n' cap cap' ps qs W (hr.grew h) (hr'.grew h) hn hn' hs hs'
  clear hr hr' hs hs'
  have HV : Hid (decide ((⟨st, ps, out, proc, pc⟩ : Ru) = ⟨st', qs, out', proc', pc'⟩) = (decide (st = st') && decide (ps = qs) && decide (out = out') && decide (proc = proc') && decide (pc = pc'))) := Lib.hid (by
    rw [Bool.eq_iff_iff]
    simp [and_assoc])
  rw [HV.out]
  clear HV
  generalize decide (ps = qs) = B at *
  have HC := Lib.hid C; clear C
  cases B
  all_goals
    go_enter Try.func37, Try.ntmps37
    go_wp2_with ((with_reducible refine (HC.out _ (by repeat (first | with_reducible exact Below.refl _ _ | with_reducible assumption | with_reducible apply grew_ext | with_reducible apply grew_al | with_reducible apply grew_dn | with_reducible apply grew_d | (with_reducible refine grew_set ?_ (by first | omega | (repeat (first | with_reducible exact Nat.le_refl _ | with_reducible apply le_pl | with_reducible apply le_ext | with_reducible apply le_al))) _)))).mono ?_); rintro e w' ⟨rfl, g'⟩; (first | obtain ⟨x, rfl⟩ := ext_cold g' | obtain ⟨x, rfl⟩ := ext_col g' | obtain ⟨x, rfl⟩ := ext_of g'); clear g')
    all_goals
      go_ret
      refine ⟨by go_light; simp_all, ?_⟩
      repeat (first | with_reducible exact Below.refl _ _ | with_reducible assumption | with_reducible apply grew_ext | with_reducible apply grew_al | with_reducible apply grew_dn | with_reducible apply grew_d | (with_reducible refine grew_set ?_ (by first | omega | (repeat (first | with_reducible exact Nat.le_refl _ | with_reducible apply le_pl | with_reducible apply le_ext | with_reducible apply le_al))) _))

end Go.Proofs.Ytnjoofpllhbccaa
