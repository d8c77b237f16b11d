/- Whether a state has variables and cells: both sides. No condition. -/
import Derived.Test.YtpmfpgbpndobpaaSt
import Derived.Test.YtpmfpgbpndobpaaHas4
namespace Go.Proofs.Ytpmfpgbpndobpaa
open Go.RowKit
set_option linter.unusedVariables false
set_option linter.unusedSimpArgs false
attribute [local go_sem] ext_cell ext_frozen ext_lt ext_le ext_le1 lt_s2 lt_s3 lt_s4 lt_s5 lt_s6 ext_lt1 ext_lt2 ext_lt3

def inP (p : Itv × Int) : Bool := inB p.1.lo p.1.hi p.2
/-- Whether a state has these variables and cells. -/
def hasB (on : Bool) (xs : List Itv) (lo hi : Int) (vs cs : List Int) : Bool := (stOkB on xs lo hi && on) && (decide (vs.length = 4) && decide (cs.length = 4)) && ((xs.zip vs).all inP && cs.all (inB lo hi))
theorem wp_letH {P : Program} {c : Code} {Q : Exit → Act → World → Prop} {a : Act} {W : World} (h : ∀ E, E = W → c.wp P Q a E) : c.wp P Q a W := h W rfl
theorem four_ints {vs : List Int} (h : vs.length = 4) : ∃ v0 v1 v2 v3, vs = [v0, v1, v2, v3] := by
  match vs, h with
  | [v0, v1, v2, v3], _ => exact ⟨v0, v1, v2, v3, rfl⟩

theorem specItvHas (lo hi x : Int) (w : World) :
    Calls Try.prog 16 #[.agg #[.int .i64 lo, .int .i64 hi], .int .i64 x] w fun e w' => e = .returned (.bool (itvOkB lo hi && inB lo hi x)) ∧ Grew w w' := by
  have C := fun w => specItvOk ⟨lo, hi⟩ w
  simp only at C
  have D := fun w => l1In x lo hi w
  obtain ⟨B, hB⟩ : ∃ B, itvOkB lo hi = B := ⟨_, rfl⟩
  rw [hB] at C
  rw [hB]
  have HC := Lib.hid C
  have HD := Lib.hid D
  clear C D hB
  cases B
  all_goals
    go_enter Try.func16, Try.ntmps16
    go_wp2_with (first | ((with_reducible refine (HC.out _).mono ?_); rintro e w' ⟨rfl, g'⟩; (first | obtain ⟨y, rfl⟩ := ext_cold g' | obtain ⟨y, rfl⟩ := ext_col g' | obtain ⟨y, rfl⟩ := ext_of g'); clear g') | ((with_reducible refine (HD.out _).mono ?_); rintro e w' ⟨rfl, rfl⟩))
    go_ret
    refine ⟨by simp [inB], ?_⟩
    repeat (first | with_reducible exact Below.refl _ _ | with_reducible assumption | with_reducible apply grew_ext | with_reducible apply grew_al | with_reducible apply grew_dn | with_reducible apply grew_d | (with_reducible refine grew_set ?_ (by first | omega | (repeat (first | with_reducible exact Nat.le_refl _ | with_reducible apply le_pl | with_reducible apply le_ext | with_reducible apply le_al))) _))
set_option maxHeartbeats 2000000 in
theorem specAbsOk (on : Bool) (a : Option Addr) (n c : Nat) (xs : List Itv) (lo hi : Int) (w : World) (hr : RdL EItv 2 w a n xs) (hn : n ≤ 9223372036854775807) :
    Calls Try.prog 34 #[.agg #[.bool on, .slice a n c, .int .i64 lo, .int .i64 hi]] w fun e w' => e = .returned (.bool (stOkB on xs lo hi)) ∧ Grew w w' := by
  have hl := hr.len
  cases on
  · have C := fun w => specL7None ⟨lo, hi⟩ w
    simp only at C
    have HC := Lib.hid C
    clear C
    by_cases hn0 : n = 0
    · have HV : Hid (stOkB false xs lo hi = (decide (lo = 0) && decide (hi = 0))) := Lib.hid (by
        have : xs = [] := List.eq_nil_of_length_eq_zero (by omega)
        subst this
        simp [stOkB])
      clear hr hl
      subst hn0
      go_enter Try.func34, Try.ntmps34
      go_wp2_with ((with_reducible refine (HC.out _).mono ?_); rintro e w' ⟨rfl, g'⟩; (first | obtain ⟨y, rfl⟩ := ext_cold g' | obtain ⟨y, rfl⟩ := ext_col g' | obtain ⟨y, rfl⟩ := ext_of g'); clear g')
      go_ret
      rw [HV.out]
      refine ⟨rfl, ?_⟩
      repeat (first | with_reducible exact Below.refl _ _ | with_reducible assumption | with_reducible apply grew_ext | with_reducible apply grew_al | with_reducible apply grew_dn | with_reducible apply grew_d | (with_reducible refine grew_set ?_ (by first | omega | (repeat (first | with_reducible exact Nat.le_refl _ | with_reducible apply le_pl | with_reducible apply le_ext | with_reducible apply le_al))) _))
    · have HV : Hid (stOkB false xs lo hi = false) := Lib.hid (by
        rw [stOkB, if_neg (by simp), decide_eq_false (show ¬ xs.length = 0 by omega)]
        rfl)
      have hn1 : ((n : Int) == 0) = false := by simp; omega
      have hn2 : (n == 0) = false := by simp; omega
      clear hr hl HC
      go_enter Try.func34, Try.ntmps34
      go_wp2
      go_ret
      rw [HV.out]
      refine ⟨rfl, ?_⟩
      repeat (first | with_reducible exact Below.refl _ _ | with_reducible assumption | with_reducible apply grew_ext | with_reducible apply grew_al | with_reducible apply grew_dn | with_reducible apply grew_d | (with_reducible refine grew_set ?_ (by first | omega | (repeat (first | with_reducible exact Nat.le_refl _ | with_reducible apply le_pl | with_reducible apply le_ext | with_reducible apply le_al))) _))
  · have HO := Lib.hid (fun x w => specItvOk x w)
    have C := fun w => specItvOk ⟨lo, hi⟩ w
    simp only at C
    obtain ⟨B1, hB1⟩ : ∃ B, itvOkB lo hi = B := ⟨_, rfl⟩
    rw [hB1] at C
    have HB1 := Lib.hid hB1
    have HC := Lib.hid C
    have HR := Lib.hid hr
    clear C hB1 hr
    by_cases h4 : n = 4
    · subst h4
      have HL := Lib.hid hl
      clear hl
      cases B1
      · have HV : Hid (stOkB true xs lo hi = false) := Lib.hid (by rw [stOkB, if_pos rfl, HB1.out]; simp)
        go_enter Try.func34, Try.ntmps34
        go_wp2_with ((with_reducible refine (HC.out _).mono ?_); rintro e w' ⟨rfl, g'⟩; (first | obtain ⟨y, rfl⟩ := ext_cold g' | obtain ⟨y, rfl⟩ := ext_col g' | obtain ⟨y, rfl⟩ := ext_of g'); clear g')
        go_ret
        rw [HV.out]
        refine ⟨rfl, ?_⟩
        repeat (first | with_reducible exact Below.refl _ _ | with_reducible assumption | with_reducible apply grew_ext | with_reducible apply grew_al | with_reducible apply grew_dn | with_reducible apply grew_d | (with_reducible refine grew_set ?_ (by first | omega | (repeat (first | with_reducible exact Nat.le_refl _ | with_reducible apply le_pl | with_reducible apply le_ext | with_reducible apply le_al))) _))
      · have HV : Hid (stOkB true xs lo hi = xs.all itvB) := Lib.hid (by rw [stOkB, if_pos rfl, HB1.out, HL.out]; simp)
        go_enter Try.func34, Try.ntmps34
        go_wp2_with ((with_reducible refine (HC.out _).mono ?_); rintro e w' ⟨rfl, g'⟩; (first | obtain ⟨y, rfl⟩ := ext_cold g' | obtain ⟨y, rfl⟩ := ext_col g' | obtain ⟨y, rfl⟩ := ext_of g'); clear g')
        refine wp_letH ?_
        intro E hE
        have GE : Grew w E := by rw [hE]; repeat (first | with_reducible exact Below.refl _ _ | with_reducible assumption | with_reducible apply grew_ext | with_reducible apply grew_al | with_reducible apply grew_dn | with_reducible apply grew_d | (with_reducible refine grew_set ?_ (by first | omega | (repeat (first | with_reducible exact Nat.le_refl _ | with_reducible apply le_pl | with_reducible apply le_ext | with_reducible apply le_al))) _))
        have q1 : E.cell? ⟨w.heap.size, 1, none⟩ = some (.slice a 4 c) := by rw [hE]; simp [go_sem]
        have l0 : w.heap.size < E.heap.size := by rw [hE]; have := ext_size _ y; simp only [World.size_alloc] at this; omega
        have HSO := Lib.hid (fun W (h : Grew E W) => (⟨(h.cell (p := ⟨w.heap.size, 1, none⟩) l0).trans q1, Nat.lt_of_lt_of_le l0 h.size⟩ : W.cell? ⟨w.heap.size, 1, none⟩ = some (.slice a 4 c) ∧ w.heap.size < W.heap.size))
        have HGE := Lib.hid GE
        clear hE q1 l0 GE HC
        go_loopw [3] (fun i wr => ∃ k : Nat, k ≤ 4 ∧ i = .int .i64 k ∧ Grew E wr ∧ ∀ x, x ∈ xs.take k → itvB x = true) (fun i _ => 4 - (intOf i).toNat)
        case atStart => exact ⟨0, Nat.zero_le _, rfl, Below.refl _ _, by simp⟩
        case round =>
          obtain ⟨k, hk, rfl, hg, hall⟩ := hrel
          obtain ⟨q1, l0⟩ := HSO.out _ hg
          have HG := Lib.hid hg
          have HA := Lib.hid hall
          clear hall
          by_cases hlt : k < 4
          · obtain ⟨b, off, xl, xh, rfl, hx, c0, c1, hb⟩ := rdItv_at (HR.out.grew staysItv (grew_tr HGE.out hg)) hlt
            have HX := Lib.hid hx
            have C := fun W => HO.out ⟨xl, xh⟩ W
            simp only at C
            clear hx hg
            cases hq : itvOkB xl xh
            · rw [hq] at C
              have HCk := Lib.hid C
              have HF : Hid (xs.all itvB = false) := Lib.hid (by rw [List.all_eq_false]; exact ⟨_, List.mem_of_getElem? HX.out, by simp [itvB, hq]⟩)
              clear C hq
              go_wp2_with ((with_reducible refine (HCk.out _).mono ?_); rintro e w' ⟨rfl, g'⟩; (first | obtain ⟨u, rfl⟩ := ext_cold g' | obtain ⟨u, rfl⟩ := ext_col g' | obtain ⟨u, rfl⟩ := ext_of g'); clear g')
              go_ret
              rw [HV.out, HF.out]
              refine ⟨rfl, ?_⟩
              have h1 := grew_tr HGE.out HG.out
              repeat (first | with_reducible exact Below.refl _ _ | with_reducible assumption | with_reducible apply grew_ext | with_reducible apply grew_al | with_reducible apply grew_dn | with_reducible apply grew_d | (with_reducible refine grew_set ?_ (by first | omega | (repeat (first | with_reducible exact Nat.le_refl _ | with_reducible apply le_pl | with_reducible apply le_ext | with_reducible apply le_al))) _))
            · rw [hq] at C
              have HCk := Lib.hid C
              have HQ := Lib.hid hq
              clear C hq
              go_wp2_with ((with_reducible refine (HCk.out _).mono ?_); rintro e w' ⟨rfl, g'⟩; (first | obtain ⟨u, rfl⟩ := ext_cold g' | obtain ⟨u, rfl⟩ := ext_col g' | obtain ⟨u, rfl⟩ := ext_of g'); clear g')
              have HG2 := Lib.hid (show Grew E (ext wr u) from grew_tr HG.out (by repeat (first | with_reducible exact Below.refl _ _ | with_reducible assumption | with_reducible apply grew_ext | with_reducible apply grew_al | with_reducible apply grew_dn | with_reducible apply grew_d | (with_reducible refine grew_set ?_ (by first | omega | (repeat (first | with_reducible exact Nat.le_refl _ | with_reducible apply le_pl | with_reducible apply le_ext | with_reducible apply le_al))) _))))
              go_roundw
              case rel =>
                refine ⟨k + 1, by omega, by go_num, HG2.out, fun x hx => ?_⟩
                rw [take_get HX.out] at hx
                rcases List.mem_append.1 hx with hx | hx
                · exact HA.out x hx
                · rw [List.mem_singleton.1 hx]
                  exact HQ.out
              case measure => simp [intOf]; omega
          · obtain rfl : k = 4 := by omega
            have HF : Hid (xs.all itvB = true) := Lib.hid (by
              rw [List.all_eq_true]
              exact fun x hx => HA.out x (by rw [List.take_of_length_le (by rw [HL.out]; exact Nat.le_refl _)]; exact hx))
            clear hg
            go_wp2
            go_ret
            rw [HV.out, HF.out]
            exact ⟨rfl, grew_tr HGE.out HG.out⟩
    · have HV : Hid (stOkB true xs lo hi = false) := Lib.hid (by
        rw [stOkB, if_pos rfl, decide_eq_false (show ¬ xs.length = 4 by omega)]
        rfl)
      have hn1 : ((n : Int) != 4) = true := by simp; omega
      have hn2 : (n != 4) = true := by simp; omega
      clear hl
      go_enter Try.func34, Try.ntmps34
      go_wp2
      go_ret
      rw [HV.out]
      refine ⟨rfl, ?_⟩
      repeat (first | with_reducible exact Below.refl _ _ | with_reducible assumption | with_reducible apply grew_ext | with_reducible apply grew_al | with_reducible apply grew_dn | with_reducible apply grew_d | (with_reducible refine grew_set ?_ (by first | omega | (repeat (first | with_reducible exact Nat.le_refl _ | with_reducible apply le_pl | with_reducible apply le_ext | with_reducible apply le_al))) _))
end Go.Proofs.Ytpmfpgbpndobpaa
