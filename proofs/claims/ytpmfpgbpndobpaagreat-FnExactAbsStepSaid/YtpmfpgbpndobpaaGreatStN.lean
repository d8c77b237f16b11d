/- Lemmas and walks of this proof, some texts one behind the other. No condition. -/
import Derived.Test.YtpmfpgbpndobpaaGreatHas
set_option linter.unusedSimpArgs false
set_option linter.unusedVariables false
/- Abstract states in general: read by the program, found ok by both sides. No condition. -/
namespace Go.Proofs.YtpmfpgbpndobpaaGreat
open Go.RowKit
set_option linter.unusedVariables false
set_option linter.unusedSimpArgs false
attribute [local go_sem] ext_cell ext_frozen ext_lt ext_le ext_le1 lt_s2 lt_s3 lt_s4 lt_s5 lt_s6 ext_lt1 ext_lt2 ext_lt3

/-- Whether a state is ok. -/
def stOkB (on : Bool) (xs : List Itv) (lo hi : Int) : Bool := if on then decide (xs.length = 4) && itvOkB lo hi && xs.all itvB else decide (xs.length = 0) && decide (lo = 0) && decide (hi = 0)
theorem st_four {xs : List Itv} {lo hi : Int} (h : stOkB true xs lo hi = true) : itvOkB lo hi = true ∧ ∃ x0 x1 x2 x3, xs = [x0, x1, x2, x3] ∧ itvB x0 = true ∧ itvB x1 = true ∧ itvB x2 = true ∧ itvB x3 = true := by
  simp only [stOkB, if_true, Bool.and_eq_true, decide_eq_true_eq] at h
  obtain ⟨⟨h1, h2⟩, h3⟩ := h
  match xs, h1, h3 with
  | [x0, x1, x2, x3], _, h3 =>
    simp only [List.all_cons, List.all_nil, Bool.and_true, Bool.and_eq_true] at h3
    exact ⟨h2, x0, x1, x2, x3, rfl, h3.1, h3.2.1, h3.2.2.1, h3.2.2.2⟩
theorem itvEqZ (lo hi : Int) (w : World) : (binOp .eql 31 (.agg #[.int .i64 lo, .int .i64 hi]) (.agg #[.int .i64 0, .int .i64 0])).run Tryz.prog w = .ok (.bool (decide (lo = 0) && decide (hi = 0))) w := by
  by_cases h1 : lo = 0
  · by_cases h2 : hi = 0 <;> simp [go_sem, *]
  · simp [go_sem, *]
section
attribute [local go_sem ↓] itvEqZ
set_option maxHeartbeats 2000000 in
theorem readState0 (a : Option Addr) (n c : Nat) (xs : List Itv) (lo hi : Int) (w : World) (hr : RdL EItv 2 w a n xs) :
    Calls Tryz.prog 50 #[.agg #[.bool false, .slice a n c, .int .i64 lo, .int .i64 hi]] w fun e w' => e = .returned (.tuple #[.pointer none, .bool (stOkB false xs lo hi)]) ∧ Grew w w' := by
  have hl := hr.len
  by_cases hn : n = 0
  · have HV : Hid (stOkB false xs lo hi = (decide (lo = 0) && decide (hi = 0))) := Lib.hid (by
      have : xs = [] := List.eq_nil_of_length_eq_zero (by omega)
      subst this
      simp [stOkB])
    clear hr hl
    subst hn
    go_enter Tryz.func50, Tryz.ntmps50
    go_wp2
    go_quiet (fail)
    go_wp2
    go_ret2
    rw [HV.out]
    refine ⟨rfl, ?_⟩
    exact gr
  · have HV : Hid (stOkB false xs lo hi = false) := Lib.hid (by
      rw [stOkB, if_neg (by simp), decide_eq_false (show ¬ xs.length = 0 by omega)]
      rfl)
    have hn1 : ((n : Int) == 0) = false := by simp; omega
    have hn2 : (n == 0) = false := by simp; omega
    clear hr hl
    go_enter Tryz.func50, Tryz.ntmps50
    go_wp2
    go_quiet (fail)
    go_wp2
    go_ret2
    rw [HV.out]
    refine ⟨rfl, ?_⟩
    exact gr
end
set_option maxHeartbeats 2000000 in
theorem readStateB (a : Option Addr) (n c : Nat) (xs : List Itv) (lo hi : Int) (w : World) (hr : RdL EItv 2 w a n xs) (hn : n ≤ 9223372036854775807) (hbad : stOkB true xs lo hi = false) :
    Calls Tryz.prog 50 #[.agg #[.bool true, .slice a n c, .int .i64 lo, .int .i64 hi]] w fun e w' => e = .returned (.tuple #[.pointer none, .bool false]) ∧ Grew w w' := by
  have hl := hr.len
  have C := fun w => itvOk lo hi w
  have D := fun W (h : Grew w W) => containsFuncItv a n c xs W (hr.grew staysItv h) hn
  rw [stOkB, if_pos rfl] at hbad
  obtain ⟨B1, hB1⟩ : ∃ B, itvOkB lo hi = B := ⟨_, rfl⟩
  obtain ⟨B2, hB2⟩ : ∃ B, xs.all itvB = B := ⟨_, rfl⟩
  rw [hB1] at C hbad
  rw [hB2] at D hbad
  have HC := Lib.hid C
  have HD := Lib.hid D
  clear C D hr hB1 hB2
  by_cases h4 : n = 4
  · subst h4
    have h5 : decide (xs.length = 4) = true := decide_eq_true hl
    rw [h5, Bool.true_and] at hbad
    clear h5 hl
    cases B1
    · go_enter Tryz.func50, Tryz.ntmps50
      go_wp2_with (first | ((with_reducible refine (HC.out _).mono ?_); rintro e w' ⟨rfl, g'⟩; (first | obtain ⟨y, rfl⟩ := ext_cold g' | obtain ⟨y, rfl⟩ := ext_col g' | obtain ⟨y, rfl⟩ := ext_of g'); clear g') | ((with_reducible refine (HD.out _ (gr)).mono ?_); rintro e w' ⟨rfl, g'⟩; (first | obtain ⟨z, rfl⟩ := ext_cold g' | obtain ⟨z, rfl⟩ := ext_col g' | obtain ⟨z, rfl⟩ := ext_of g'); clear g'))
      go_ret2
      refine ⟨rfl, ?_⟩
      exact gr
    · cases B2
      · go_enter Tryz.func50, Tryz.ntmps50
        go_wp2_with (first | ((with_reducible refine (HC.out _).mono ?_); rintro e w' ⟨rfl, g'⟩; (first | obtain ⟨y, rfl⟩ := ext_cold g' | obtain ⟨y, rfl⟩ := ext_col g' | obtain ⟨y, rfl⟩ := ext_of g'); clear g') | ((with_reducible refine (HD.out _ (gr)).mono ?_); rintro e w' ⟨rfl, g'⟩; (first | obtain ⟨z, rfl⟩ := ext_cold g' | obtain ⟨z, rfl⟩ := ext_col g' | obtain ⟨z, rfl⟩ := ext_of g'); clear g'))
        go_ret2
        refine ⟨rfl, ?_⟩
        exact gr
      · cases hbad
  · have hn1 : ((n : Int) != 4) = true := by simp; omega
    have hn2 : (n != 4) = true := by simp; omega
    clear hbad hl
    go_enter Tryz.func50, Tryz.ntmps50
    go_wp2
    go_ret2
    refine ⟨rfl, ?_⟩
    exact gr
/-- What a state's ten numbers are. -/
def stC (xs : List Itv) (lo hi : Int) : Array Value := (xs.flatMap Itv.cells ++ ([.int .i64 lo, .int .i64 hi] : List Value)).toArray
/-- What readState answers. -/
def RetSt (on : Bool) (xs : List Itv) (lo hi : Int) (w : World) (e : Ending) (w' : World) : Prop :=
  Grew w w' ∧ ((stOkB on xs lo hi && on) = false ∧ e = .returned (.tuple #[.pointer none, .bool (stOkB on xs lo hi)]) ∨
    (stOkB on xs lo hi && on) = true ∧ ∃ b, e = .returned (.tuple #[.pointer (some ⟨b, 0, none⟩), .bool true]) ∧ w.heap.size ≤ b ∧ Blk w' b 110 (stC xs lo hi))
theorem implReadState (on : Bool) (a : Option Addr) (n c : Nat) (xs : List Itv) (lo hi : Int) (w : World) (hr : RdL EItv 2 w a n xs) (hn : n ≤ 9223372036854775807) (hc : n ≤ c) :
    Calls Tryz.prog 50 #[.agg #[.bool on, .slice a n c, .int .i64 lo, .int .i64 hi]] w (RetSt on xs lo hi w) := by
  cases on
  · refine (readState0 a n c xs lo hi w hr).mono ?_
    rintro e w' ⟨rfl, g⟩
    exact ⟨g, .inl ⟨by simp, rfl⟩⟩
  · cases hB : stOkB true xs lo hi
    · refine (readStateB a n c xs lo hi w hr hn hB).mono ?_
      rintro e w' ⟨rfl, g⟩
      exact ⟨g, .inl ⟨by rw [hB]; rfl, by rw [hB]⟩⟩
    · obtain ⟨hi1, x0, x1, x2, x3, rfl, b0, b1, b2, b3⟩ := st_four hB
      obtain rfl : 4 = n := hr.len
      refine (readState4 a c x0 x1 x2 x3 lo hi w hr hi1 (by simp [b0, b1, b2, b3]) hc).mono ?_
      rintro e w' ⟨b, rfl, h1, h2, h3⟩
      exact ⟨h2, .inr ⟨by rw [hB]; rfl, b, rfl, h1, h3⟩⟩
end Go.Proofs.YtpmfpgbpndobpaaGreat

/- Whether a state has variables and cells: both sides. No condition. -/
namespace Go.Proofs.YtpmfpgbpndobpaaGreat
open Go.RowKit
set_option linter.unusedVariables false
set_option linter.unusedSimpArgs false
attribute [local go_sem] ext_cell ext_frozen ext_lt ext_le ext_le1 lt_s2 lt_s3 lt_s4 lt_s5 lt_s6 ext_lt1 ext_lt2 ext_lt3

theorem wp_letH {P : Program} {c : Code} {Q : Exit → Act → World → Prop} {a : Act} {W : World} (h : ∀ E, E = W → c.wp P Q a E) : c.wp P Q a W := h W rfl
set_option maxHeartbeats 2000000 in
theorem specAbsOk (on : Bool) (a : Option Addr) (n c : Nat) (xs : List Itv) (lo hi : Int) (w : World) (hr : RdL EItv 2 w a n xs) (hn : n ≤ 9223372036854775807) :
    Calls Tryz.prog 9 #[.agg #[.bool on, .slice a n c, .int .i64 lo, .int .i64 hi]] w fun e w' => e = .returned (.bool (stOkB on xs lo hi)) ∧ Grew w w' := by
  have hl := hr.len
  cases on
  · have C := fun w => specL7None ⟨lo, hi⟩ w
    simp only at C
    have HC := Lib.hid C
    clear C
    by_cases hn0 : n = 0
    · have HV : Hid (stOkB false xs lo hi = (decide (lo = 0) && decide (hi = 0))) := Lib.hid (by
        have : xs = [] := List.eq_nil_of_length_eq_zero (by omega)
        subst this
        simp [stOkB])
      clear hr hl
      subst hn0
      go_enter Tryz.func9, Tryz.ntmps9
      go_wp2_with ((with_reducible refine (HC.out _).mono ?_); rintro e w' ⟨rfl, g'⟩; (first | obtain ⟨y, rfl⟩ := ext_cold g' | obtain ⟨y, rfl⟩ := ext_col g' | obtain ⟨y, rfl⟩ := ext_of g'); clear g')
      go_ret
      rw [HV.out]
      refine ⟨rfl, ?_⟩
      exact gr
    · have HV : Hid (stOkB false xs lo hi = false) := Lib.hid (by
        rw [stOkB, if_neg (by simp), decide_eq_false (show ¬ xs.length = 0 by omega)]
        rfl)
      have hn1 : ((n : Int) == 0) = false := by simp; omega
      have hn2 : (n == 0) = false := by simp; omega
      clear hr hl HC
      go_enter Tryz.func9, Tryz.ntmps9
      go_wp2
      go_ret
      rw [HV.out]
      refine ⟨rfl, ?_⟩
      exact gr
  · have HO := Lib.hid (fun x w => specItvOk x w)
    have C := fun w => specItvOk ⟨lo, hi⟩ w
    simp only at C
    obtain ⟨B1, hB1⟩ : ∃ B, itvOkB lo hi = B := ⟨_, rfl⟩
    rw [hB1] at C
    have HB1 := Lib.hid hB1
    have HC := Lib.hid C
    have HR := Lib.hid hr
    clear C hB1 hr
    by_cases h4 : n = 4
    · subst h4
      have HL := Lib.hid hl
      clear hl
      cases B1
      · have HV : Hid (stOkB true xs lo hi = false) := Lib.hid (by rw [stOkB, if_pos rfl, HB1.out]; simp)
        go_enter Tryz.func9, Tryz.ntmps9
        go_wp2_with ((with_reducible refine (HC.out _).mono ?_); rintro e w' ⟨rfl, g'⟩; (first | obtain ⟨y, rfl⟩ := ext_cold g' | obtain ⟨y, rfl⟩ := ext_col g' | obtain ⟨y, rfl⟩ := ext_of g'); clear g')
        go_ret
        rw [HV.out]
        refine ⟨rfl, ?_⟩
        exact gr
      · have HV : Hid (stOkB true xs lo hi = xs.all itvB) := Lib.hid (by rw [stOkB, if_pos rfl, HB1.out, HL.out]; simp)
        go_enter Tryz.func9, Tryz.ntmps9
        go_wp2_with ((with_reducible refine (HC.out _).mono ?_); rintro e w' ⟨rfl, g'⟩; (first | obtain ⟨y, rfl⟩ := ext_cold g' | obtain ⟨y, rfl⟩ := ext_col g' | obtain ⟨y, rfl⟩ := ext_of g'); clear g')
        refine wp_letH ?_
        intro E hE
        have GE : Grew w E := by rw [hE]; exact gr
        have q1 : E.cell? ⟨w.heap.size, 1, none⟩ = some (.slice a 4 c) := by rw [hE]; simp [go_sem]
        have l0 : w.heap.size < E.heap.size := by rw [hE]; have := ext_size _ y; simp only [World.size_alloc] at this; omega
        have HSO := Lib.hid (fun W (h : Grew E W) => (⟨(h.cell (p := ⟨w.heap.size, 1, none⟩) l0).trans q1, Nat.lt_of_lt_of_le l0 h.size⟩ : W.cell? ⟨w.heap.size, 1, none⟩ = some (.slice a 4 c) ∧ w.heap.size < W.heap.size))
        have HGE := Lib.hid GE
        clear hE q1 l0 GE HC
        go_loopw [3] (fun i wr => ∃ k : Nat, k ≤ 4 ∧ i = .int .i64 k ∧ Grew E wr ∧ ∀ x, x ∈ xs.take k → itvB x = true) (fun i _ => 4 - (intOf i).toNat)
        case atStart => exact ⟨0, Nat.zero_le _, rfl, Below.refl _ _, by simp⟩
        case round =>
          obtain ⟨k, hk, rfl, hg, hall⟩ := hrel
          obtain ⟨q1, l0⟩ := HSO.out _ hg
          have HG := Lib.hid hg
          have HA := Lib.hid hall
          clear hall
          by_cases hlt : k < 4
          · obtain ⟨b, off, xl, xh, rfl, hx, c0, c1, hb⟩ := rdItv_at (HR.out.grew staysItv (grew_tr HGE.out hg)) hlt
            have HX := Lib.hid hx
            have C := fun W => HO.out ⟨xl, xh⟩ W
            simp only at C
            clear hx hg
            cases hq : itvOkB xl xh
            · rw [hq] at C
              have HCk := Lib.hid C
              have HF : Hid (xs.all itvB = false) := Lib.hid (by rw [List.all_eq_false]; exact ⟨_, List.mem_of_getElem? HX.out, by simp [itvB, hq]⟩)
              clear C hq
              go_wp2_with ((with_reducible refine (HCk.out _).mono ?_); rintro e w' ⟨rfl, g'⟩; (first | obtain ⟨u, rfl⟩ := ext_cold g' | obtain ⟨u, rfl⟩ := ext_col g' | obtain ⟨u, rfl⟩ := ext_of g'); clear g')
              go_ret
              rw [HV.out, HF.out]
              refine ⟨rfl, ?_⟩
              have h1 := grew_tr HGE.out HG.out
              exact gr
            · rw [hq] at C
              have HCk := Lib.hid C
              have HQ := Lib.hid hq
              clear C hq
              go_wp2_with ((with_reducible refine (HCk.out _).mono ?_); rintro e w' ⟨rfl, g'⟩; (first | obtain ⟨u, rfl⟩ := ext_cold g' | obtain ⟨u, rfl⟩ := ext_col g' | obtain ⟨u, rfl⟩ := ext_of g'); clear g')
              have HG2 := Lib.hid (show Grew E (ext wr u) from grew_tr HG.out (gr))
              go_roundw
              case rel =>
                refine ⟨k + 1, by omega, by go_num, HG2.out, fun x hx => ?_⟩
                rw [take_get HX.out] at hx
                rcases List.mem_append.1 hx with hx | hx
                · exact HA.out x hx
                · rw [List.mem_singleton.1 hx]
                  exact HQ.out
              case measure => simp [intOf]; omega
          · obtain rfl : k = 4 := by omega
            have HF : Hid (xs.all itvB = true) := Lib.hid (by
              rw [List.all_eq_true]
              exact fun x hx => HA.out x (by rw [List.take_of_length_le (by rw [HL.out]; exact Nat.le_refl _)]; exact hx))
            clear hg
            go_wp2
            go_ret
            rw [HV.out, HF.out]
            exact ⟨rfl, grew_tr HGE.out HG.out⟩
    · have HV : Hid (stOkB true xs lo hi = false) := Lib.hid (by
        rw [stOkB, if_pos rfl, decide_eq_false (show ¬ xs.length = 4 by omega)]
        rfl)
      have hn1 : ((n : Int) != 4) = true := by simp; omega
      have hn2 : (n != 4) = true := by simp; omega
      clear hl
      go_enter Tryz.func9, Tryz.ntmps9
      go_wp2
      go_ret
      rw [HV.out]
      refine ⟨rfl, ?_⟩
      exact gr
end Go.Proofs.YtpmfpgbpndobpaaGreat

/- Whether a state has variables and cells: the reference's side. No condition. -/
namespace Go.Proofs.YtpmfpgbpndobpaaGreat
open Go.RowKit
set_option linter.unusedVariables false
set_option linter.unusedSimpArgs false
attribute [local go_sem] ext_cell ext_frozen ext_lt ext_le ext_le1 lt_s2 lt_s3 lt_s4 lt_s5 lt_s6 ext_lt1 ext_lt2 ext_lt3

theorem itvB_all {xs : List Itv} {lo hi : Int} (h : stOkB true xs lo hi = true) : ∀ x, x ∈ xs → itvB x = true := by
  obtain ⟨_, x0, x1, x2, x3, rfl, b0, b1, b2, b3⟩ := st_four h
  intro x hx
  simp only [List.mem_cons, List.not_mem_nil, or_false] at hx
  rcases hx with rfl | rfl | rfl | rfl <;> assumption
end Go.Proofs.YtpmfpgbpndobpaaGreat

/- One state within another one: the program's side, for states that are ok. No condition. -/
namespace Go.Proofs.YtpmfpgbpndobpaaGreat
open Go.RowKit
set_option linter.unusedVariables false
set_option linter.unusedSimpArgs false
attribute [local go_sem] ext_cell ext_frozen ext_lt ext_le ext_le1 lt_s2 lt_s3 lt_s4 lt_s5 lt_s6 ext_lt1 ext_lt2 ext_lt3

theorem implBothOk (a b : Itv) (w : World) (ha : itvB a = true) (hb : itvB b = true) :
    Calls Tryz.prog 130 #[.agg #[.int .i64 a.lo, .int .i64 a.hi], .agg #[.int .i64 b.lo, .int .i64 b.hi]] w fun e w' => e = .returned (.bool true) ∧ Grew w w' := by
  have C := fun w => itvOk a.lo a.hi w
  have D := fun w => itvOk b.lo b.hi w
  rw [itvB] at ha hb
  rw [ha] at C
  rw [hb] at D
  have HC := Lib.hid C
  have HD := Lib.hid D
  clear C D ha hb
  obtain ⟨al, ah⟩ := a
  obtain ⟨bl, bh⟩ := b
  simp only at HC HD ⊢
  go_enter Tryz.func130, Tryz.ntmps130
  go_wp2_with (first | ((with_reducible refine (HC.out _).mono ?_); rintro e w' ⟨rfl, g'⟩; (first | obtain ⟨y, rfl⟩ := ext_cold g' | obtain ⟨y, rfl⟩ := ext_col g' | obtain ⟨y, rfl⟩ := ext_of g'); clear g') | ((with_reducible refine (HD.out _).mono ?_); rintro e w' ⟨rfl, g'⟩; (first | obtain ⟨z, rfl⟩ := ext_cold g' | obtain ⟨z, rfl⟩ := ext_col g' | obtain ⟨z, rfl⟩ := ext_of g'); clear g'))
  go_ret
  refine ⟨by simp, ?_⟩
  exact gr
/-- The cells of a state of four. -/
theorem st_cell {w : World} {b : Nat} {xs : List Itv} {lo hi : Int} (h : Blk w b 110 (stC xs lo hi)) (h4 : xs.length = 4) {k : Nat} {x : Itv} (hx : xs[k]? = some x) : w.cell? ⟨b, k * 2, none⟩ = some (.int .i64 x.lo) ∧ w.cell? ⟨b, k * 2 + 1, none⟩ = some (.int .i64 x.hi) := by
  match xs, h4 with
  | [x0, x1, x2, x3], _ =>
    match k, hx with
    | 0, hx => cases hx; exact ⟨h.cell 0, h.cell 1⟩
    | 1, hx => cases hx; exact ⟨h.cell 2, h.cell 3⟩
    | 2, hx => cases hx; exact ⟨h.cell 4, h.cell 5⟩
    | 3, hx => cases hx; exact ⟨h.cell 6, h.cell 7⟩
theorem st_end {w : World} {b : Nat} {xs : List Itv} {lo hi : Int} (h : Blk w b 110 (stC xs lo hi)) (h4 : xs.length = 4) : w.cell? ⟨b, 8, none⟩ = some (.int .i64 lo) ∧ w.cell? ⟨b, 9, none⟩ = some (.int .i64 hi) := by
  match xs, h4 with
  | [x0, x1, x2, x3], _ => exact ⟨h.cell 8, h.cell 9⟩
end Go.Proofs.YtpmfpgbpndobpaaGreat
