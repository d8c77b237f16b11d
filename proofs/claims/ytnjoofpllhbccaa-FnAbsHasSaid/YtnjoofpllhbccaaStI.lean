/- Lemmas and walks of this proof, some texts one behind the other. No condition. -/
import Derived.Test.YtnjoofpllhbccaaReadS
import Derived.Test.YtnjoofpllhbccaaIntsG
import Derived.Test.YtnjoofpllhbccaaNewI
set_option linter.unusedSimpArgs false
set_option linter.unusedVariables false
/- Abstract states in general: read by the program, found ok by both sides. No condition. -/
namespace Go.Proofs.Ytnjoofpllhbccaa
open Go.RowKit
set_option linter.unusedVariables false
set_option linter.unusedSimpArgs false
attribute [local go_sem] ext_cell ext_frozen ext_lt ext_le ext_le1 lt_s2 lt_s3 lt_s4 lt_s5 lt_s6 ext_lt1 ext_lt2 ext_lt3

/-- Whether a state is ok. -/
def stOkB (on : Bool) (xs : List Itv) (lo hi : Int) : Bool := if on then decide (xs.length = 4) && itvOkB lo hi && xs.all itvB else decide (xs.length = 0) && decide (lo = 0) && decide (hi = 0)
theorem st_four {xs : List Itv} {lo hi : Int} (h : stOkB true xs lo hi = true) : itvOkB lo hi = true ∧ ∃ x0 x1 x2 x3, xs = [x0, x1, x2, x3] ∧ itvB x0 = true ∧ itvB x1 = true ∧ itvB x2 = true ∧ itvB x3 = true := by
  simp only [stOkB, if_true, Bool.and_eq_true, decide_eq_true_eq] at h
  obtain ⟨⟨h1, h2⟩, h3⟩ := h
  match xs, h1, h3 with
  | [x0, x1, x2, x3], _, h3 =>
    simp only [List.all_cons, List.all_nil, Bool.and_true, Bool.and_eq_true] at h3
    exact ⟨h2, x0, x1, x2, x3, rfl, h3.1, h3.2.1, h3.2.2.1, h3.2.2.2⟩
theorem st_off {xs : List Itv} {lo hi : Int} (h : stOkB false xs lo hi = true) : xs = [] ∧ lo = 0 ∧ hi = 0 := by
  simp only [stOkB, Bool.false_eq_true, if_false, Bool.and_eq_true, decide_eq_true_eq] at h
  exact ⟨List.eq_nil_of_length_eq_zero h.1.1, h.1.2, h.2⟩
theorem itvEqZ (lo hi : Int) (w : World) : (binOp .eql 32 (.agg #[.int .i64 lo, .int .i64 hi]) (.agg #[.int .i64 0, .int .i64 0])).run Try.prog w = .ok (.bool (decide (lo = 0) && decide (hi = 0))) w := by
  by_cases h1 : lo = 0
  · by_cases h2 : hi = 0 <;> simp [go_sem, *]
  · simp [go_sem, *]
section
attribute [local go_sem ↓] itvEqZ
set_option maxHeartbeats 2000000 in
theorem readState0 (a : Option Addr) (n c : Nat) (xs : List Itv) (lo hi : Int) (w : World) (hr : RdL EItv 2 w a n xs) :
    Calls Try.prog 75 #[.agg #[.bool false, .slice a n c, .int .i64 lo, .int .i64 hi]] w fun e w' => e = .returned (.tuple #[.pointer none, .bool (stOkB false xs lo hi)]) ∧ Grew w w' := by
  have hl := hr.len
  by_cases hn : n = 0
  · have HV : Hid (stOkB false xs lo hi = (decide (lo = 0) && decide (hi = 0))) := Lib.hid (by
      have : xs = [] := List.eq_nil_of_length_eq_zero (by omega)
      subst this
      simp [stOkB])
    clear hr hl
    subst hn
    go_enter Try.func75, Try.ntmps75
    go_wp2
    go_quiet (fail)
    go_wp2
    go_ret2
    rw [HV.out]
    refine ⟨rfl, ?_⟩
    repeat (first | with_reducible exact Below.refl _ _ | with_reducible assumption | with_reducible apply grew_ext | with_reducible apply grew_al | with_reducible apply grew_dn | with_reducible apply grew_d | (with_reducible refine grew_set ?_ (by first | omega | (repeat (first | with_reducible exact Nat.le_refl _ | with_reducible apply le_pl | with_reducible apply le_ext | with_reducible apply le_al))) _))
  · have HV : Hid (stOkB false xs lo hi = false) := Lib.hid (by
      rw [stOkB, if_neg (by simp), decide_eq_false (show ¬ xs.length = 0 by omega)]
      rfl)
    have hn1 : ((n : Int) == 0) = false := by simp; omega
    have hn2 : (n == 0) = false := by simp; omega
    clear hr hl
    go_enter Try.func75, Try.ntmps75
    go_wp2
    go_quiet (fail)
    go_wp2
    go_ret2
    rw [HV.out]
    refine ⟨rfl, ?_⟩
    repeat (first | with_reducible exact Below.refl _ _ | with_reducible assumption | with_reducible apply grew_ext | with_reducible apply grew_al | with_reducible apply grew_dn | with_reducible apply grew_d | (with_reducible refine grew_set ?_ (by first | omega | (repeat (first | with_reducible exact Nat.le_refl _ | with_reducible apply le_pl | with_reducible apply le_ext | with_reducible apply le_al))) _))
end
set_option maxHeartbeats 2000000 in
theorem readStateB (a : Option Addr) (n c : Nat) (xs : List Itv) (lo hi : Int) (w : World) (hr : RdL EItv 2 w a n xs) (hn : n ≤ 9223372036854775807) (hbad : stOkB true xs lo hi = false) :
    Calls Try.prog 75 #[.agg #[.bool true, .slice a n c, .int .i64 lo, .int .i64 hi]] w fun e w' => e = .returned (.tuple #[.pointer none, .bool false]) ∧ Grew w w' := by
  have hl := hr.len
  have C := fun w => itvOk lo hi w
  have D := fun W (h : Grew w W) => containsFuncItv a n c xs W (hr.grew staysItv h) hn
  rw [stOkB, if_pos rfl] at hbad
  obtain ⟨B1, hB1⟩ : ∃ B, itvOkB lo hi = B := ⟨_, rfl⟩
  obtain ⟨B2, hB2⟩ : ∃ B, xs.all itvB = B := ⟨_, rfl⟩
  rw [hB1] at C hbad
  rw [hB2] at D hbad
  have HC := Lib.hid C
  have HD := Lib.hid D
  clear C D hr hB1 hB2
  by_cases h4 : n = 4
  · subst h4
    have h5 : decide (xs.length = 4) = true := decide_eq_true hl
    rw [h5, Bool.true_and] at hbad
    clear h5 hl
    cases B1
    · go_enter Try.func75, Try.ntmps75
      go_wp2_with (first | ((with_reducible refine (HC.out _).mono ?_); rintro e w' ⟨rfl, g'⟩; (first | obtain ⟨y, rfl⟩ := ext_cold g' | obtain ⟨y, rfl⟩ := ext_col g' | obtain ⟨y, rfl⟩ := ext_of g'); clear g') | ((with_reducible refine (HD.out _ (by repeat (first | with_reducible exact Below.refl _ _ | with_reducible assumption | with_reducible apply grew_ext | with_reducible apply grew_al | with_reducible apply grew_dn | with_reducible apply grew_d | (with_reducible refine grew_set ?_ (by first | omega | (repeat (first | with_reducible exact Nat.le_refl _ | with_reducible apply le_pl | with_reducible apply le_ext | with_reducible apply le_al))) _)))).mono ?_); rintro e w' ⟨rfl, g'⟩; (first | obtain ⟨z, rfl⟩ := ext_cold g' | obtain ⟨z, rfl⟩ := ext_col g' | obtain ⟨z, rfl⟩ := ext_of g'); clear g'))
      go_ret2
      refine ⟨rfl, ?_⟩
      repeat (first | with_reducible exact Below.refl _ _ | with_reducible assumption | with_reducible apply grew_ext | with_reducible apply grew_al | with_reducible apply grew_dn | with_reducible apply grew_d | (with_reducible refine grew_set ?_ (by first | omega | (repeat (first | with_reducible exact Nat.le_refl _ | with_reducible apply le_pl | with_reducible apply le_ext | with_reducible apply le_al))) _))
    · cases B2
      · go_enter Try.func75, Try.ntmps75
        go_wp2_with (first | ((with_reducible refine (HC.out _).mono ?_); rintro e w' ⟨rfl, g'⟩; (first | obtain ⟨y, rfl⟩ := ext_cold g' | obtain ⟨y, rfl⟩ := ext_col g' | obtain ⟨y, rfl⟩ := ext_of g'); clear g') | ((with_reducible refine (HD.out _ (by repeat (first | with_reducible exact Below.refl _ _ | with_reducible assumption | with_reducible apply grew_ext | with_reducible apply grew_al | with_reducible apply grew_dn | with_reducible apply grew_d | (with_reducible refine grew_set ?_ (by first | omega | (repeat (first | with_reducible exact Nat.le_refl _ | with_reducible apply le_pl | with_reducible apply le_ext | with_reducible apply le_al))) _)))).mono ?_); rintro e w' ⟨rfl, g'⟩; (first | obtain ⟨z, rfl⟩ := ext_cold g' | obtain ⟨z, rfl⟩ := ext_col g' | obtain ⟨z, rfl⟩ := ext_of g'); clear g'))
        go_ret2
        refine ⟨rfl, ?_⟩
        repeat (first | with_reducible exact Below.refl _ _ | with_reducible assumption | with_reducible apply grew_ext | with_reducible apply grew_al | with_reducible apply grew_dn | with_reducible apply grew_d | (with_reducible refine grew_set ?_ (by first | omega | (repeat (first | with_reducible exact Nat.le_refl _ | with_reducible apply le_pl | with_reducible apply le_ext | with_reducible apply le_al))) _))
      · cases hbad
  · have hn1 : ((n : Int) != 4) = true := by simp; omega
    have hn2 : (n != 4) = true := by simp; omega
    clear hbad hl
    go_enter Try.func75, Try.ntmps75
    go_wp2
    go_ret2
    refine ⟨rfl, ?_⟩
    repeat (first | with_reducible exact Below.refl _ _ | with_reducible assumption | with_reducible apply grew_ext | with_reducible apply grew_al | with_reducible apply grew_dn | with_reducible apply grew_d | (with_reducible refine grew_set ?_ (by first | omega | (repeat (first | with_reducible exact Nat.le_refl _ | with_reducible apply le_pl | with_reducible apply le_ext | with_reducible apply le_al))) _))
/-- What a state's ten numbers are. -/
def stC (xs : List Itv) (lo hi : Int) : Array Value := (xs.flatMap Itv.cells ++ ([.int .i64 lo, .int .i64 hi] : List Value)).toArray
/-- What readState answers. -/
def RetSt (on : Bool) (xs : List Itv) (lo hi : Int) (w : World) (e : Ending) (w' : World) : Prop :=
  Grew w w' ∧ ((stOkB on xs lo hi && on) = false ∧ e = .returned (.tuple #[.pointer none, .bool (stOkB on xs lo hi)]) ∨
    (stOkB on xs lo hi && on) = true ∧ ∃ b, e = .returned (.tuple #[.pointer (some ⟨b, 0, none⟩), .bool true]) ∧ w.heap.size ≤ b ∧ Blk w' b 104 (stC xs lo hi))
theorem implReadState (on : Bool) (a : Option Addr) (n c : Nat) (xs : List Itv) (lo hi : Int) (w : World) (hr : RdL EItv 2 w a n xs) (hn : n ≤ 9223372036854775807) (hc : n ≤ c) :
    Calls Try.prog 75 #[.agg #[.bool on, .slice a n c, .int .i64 lo, .int .i64 hi]] w (RetSt on xs lo hi w) := by
  cases on
  · refine (readState0 a n c xs lo hi w hr).mono ?_
    rintro e w' ⟨rfl, g⟩
    exact ⟨g, .inl ⟨by simp, rfl⟩⟩
  · cases hB : stOkB true xs lo hi
    · refine (readStateB a n c xs lo hi w hr hn hB).mono ?_
      rintro e w' ⟨rfl, g⟩
      exact ⟨g, .inl ⟨by rw [hB]; rfl, by rw [hB]⟩⟩
    · obtain ⟨hi1, x0, x1, x2, x3, rfl, b0, b1, b2, b3⟩ := st_four hB
      obtain rfl : 4 = n := hr.len
      refine (readState4 a c x0 x1 x2 x3 lo hi w hr hi1 (by simp [b0, b1, b2, b3]) hc).mono ?_
      rintro e w' ⟨b, rfl, h1, h2, h3⟩
      exact ⟨h2, .inr ⟨by rw [hB]; rfl, b, rfl, h1, h3⟩⟩
theorem implAbsOk (on : Bool) (a : Option Addr) (n c : Nat) (xs : List Itv) (lo hi : Int) (w : World) (hr : RdL EItv 2 w a n xs) (hn : n ≤ 9223372036854775807) (hc : n ≤ c) :
    Calls Try.prog 23 #[.agg #[.bool on, .slice a n c, .int .i64 lo, .int .i64 hi]] w fun e w' => e = .returned (.bool (stOkB on xs lo hi)) ∧ Grew w w' := by
  have HC := Lib.hid (fun W (h : Grew w W) => implReadState on a n c xs lo hi W (hr.grew staysItv h) hn hc)
  clear hr
  go_enter Try.func23, Try.ntmps23
  go_wp2_with fail
  refine (HC.out _ (by repeat (first | with_reducible exact Below.refl _ _ | with_reducible assumption | with_reducible apply grew_ext | with_reducible apply grew_al | with_reducible apply grew_dn | with_reducible apply grew_d | (with_reducible refine grew_set ?_ (by first | omega | (repeat (first | with_reducible exact Nat.le_refl _ | with_reducible apply le_pl | with_reducible apply le_ext | with_reducible apply le_al))) _)))).mono ?_
  rintro e w1 ⟨g1, ⟨h, rfl⟩ | ⟨h, b, rfl, h1, h2⟩⟩
  · have hG := show Grew w w1 from grew_tr (by repeat (first | with_reducible exact Below.refl _ _ | with_reducible assumption | with_reducible apply grew_ext | with_reducible apply grew_al | with_reducible apply grew_dn | with_reducible apply grew_d | (with_reducible refine grew_set ?_ (by first | omega | (repeat (first | with_reducible exact Nat.le_refl _ | with_reducible apply le_pl | with_reducible apply le_ext | with_reducible apply le_al))) _))) g1
    have HG := Lib.hid hG
    clear hG g1 h
    go_wp2
    go_ret
    exact ⟨rfl, HG.out⟩
  · have hG := show Grew w w1 from grew_tr (by repeat (first | with_reducible exact Below.refl _ _ | with_reducible assumption | with_reducible apply grew_ext | with_reducible apply grew_al | with_reducible apply grew_dn | with_reducible apply grew_d | (with_reducible refine grew_set ?_ (by first | omega | (repeat (first | with_reducible exact Nat.le_refl _ | with_reducible apply le_pl | with_reducible apply le_ext | with_reducible apply le_al))) _))) g1
    have HG := Lib.hid hG
    rw [Bool.and_eq_true] at h
    have HB := Lib.hid h.1
    clear hG g1 h h1 h2
    go_wp2
    go_ret
    exact ⟨by rw [HB.out]; rfl, HG.out⟩
end Go.Proofs.Ytnjoofpllhbccaa

/- AbsHas$1 and its search. No condition. -/
namespace Go.Proofs.Ytnjoofpllhbccaa
open Go.RowKit
set_option linter.unusedVariables false
attribute [local go_sem] ext_cell ext_frozen ext_lt ext_le ext_le1 lt_s2 lt_s3 lt_s4 lt_s5 lt_s6 ext_lt1 ext_lt2 ext_lt3

def inB (lo hi x : Int) : Bool := decide (lo ≤ x) && decide (x ≤ hi)
theorem hasF1 (x lo hi : Int) (p s : Nat) (w : World) (hp : w.cell? ⟨p, 0, none⟩ = some (.pointer (some ⟨s, 0, none⟩))) (h8 : w.cell? ⟨s, 8, none⟩ = some (.int .i64 lo)) (h9 : w.cell? ⟨s, 9, none⟩ = some (.int .i64 hi)) (hok : itvOkB lo hi = true) :
    Calls Try.prog 78 #[.int .i64 x, .pointer (some ⟨p, 0, none⟩)] w fun e w' => e = .returned (.bool (!inB lo hi x)) ∧ Grew w w' := by
  have C := fun w => implItvHas lo hi x w hok
  show Calls _ _ _ _ fun e w' => e = .returned (.bool (!(decide (lo ≤ x) && decide (x ≤ hi)))) ∧ Grew w w'
  generalize (decide (lo ≤ x) && decide (x ≤ hi)) = B at *
  have HC := Lib.hid C; clear C hok
  go_enter Try.func78, Try.ntmps78
  go_wp2_with ((with_reducible refine (HC.out _).mono ?_); rintro e w' ⟨rfl, g'⟩; (first | obtain ⟨y, rfl⟩ := ext_cold g' | obtain ⟨y, rfl⟩ := ext_col g' | obtain ⟨y, rfl⟩ := ext_of g'); clear g')
  go_ret
  refine ⟨rfl, ?_⟩
  repeat (first | with_reducible exact Below.refl _ _ | with_reducible assumption | with_reducible apply grew_ext | with_reducible apply grew_al | with_reducible apply grew_dn | with_reducible apply grew_d | (with_reducible refine grew_set ?_ (by first | omega | (repeat (first | with_reducible exact Nat.le_refl _ | with_reducible apply le_pl | with_reducible apply le_ext | with_reducible apply le_al))) _))

set_option maxHeartbeats 1000000 in
theorem indexFuncHas (a : Option Addr) (n cap : Nat) (zs : List Int) (lo hi : Int) (p s : Nat) (w : World) (hr : Rd w a n 1 (ints .i64 zs)) (hn : n ≤ 9223372036854775807) (hp : w.cell? ⟨p, 0, none⟩ = some (.pointer (some ⟨s, 0, none⟩))) (h8 : w.cell? ⟨s, 8, none⟩ = some (.int .i64 lo)) (h9 : w.cell? ⟨s, 9, none⟩ = some (.int .i64 hi)) (hok : itvOkB lo hi = true) :
    Calls Try.prog 124 #[.slice a n cap, .func (.func 78) #[] #[.pointer (some ⟨p, 0, none⟩)]] w fun e w' => (∃ z : Int, e = .returned (.int .i64 z) ∧ decide (0 ≤ z) = !zs.all (inB lo hi)) ∧ Grew w w' := by
  have HL := Lib.hid hr.len1
  have lp := World.block_lt_of_cell? w _ hp
  have ls := World.block_lt_of_cell? w _ h8
  have HF : Hid (∀ W x, Grew w W → Calls Try.prog 78 #[.int .i64 x, .pointer (some ⟨p, 0, none⟩)] W fun e w' => e = .returned (.bool (!inB lo hi x)) ∧ Grew W w') := Lib.hid (fun W x g => hasF1 x lo hi p s W ((g.cell (p := ⟨p, 0, none⟩) lp).trans hp) ((g.cell (p := ⟨s, 8, none⟩) ls).trans h8) ((g.cell (p := ⟨s, 9, none⟩) ls).trans h9) hok)
  have HR := Lib.hid hr; clear hr hp h8 h9 hok lp ls
  go_enter Try.func124, Try.ntmps124
  go_wp2
  go_loopw [8] (fun i wr => ∃ k : Nat, k ≤ n ∧ i = .int .i64 k ∧ (∃ x, wr = ext w x) ∧ ∀ x, x ∈ zs.take k → inB lo hi x = true) (fun i _ => n - (intOf i).toNat)
  case atStart => exact ⟨0, Nat.zero_le _, rfl, ext_of (Below.refl _ _), by simp⟩
  case round =>
    obtain ⟨k, hk, rfl, ⟨x, rfl⟩, hall⟩ := hrel
    have HA := Lib.hid hall; clear hall
    by_cases hlt : k < n
    · obtain ⟨b, off, z0, rfl, hx, c0⟩ := (HR.out.grew (ext_grew w x)).at1 hlt
      have HX := Lib.hid hx; clear hx
      have C := fun W (h : Grew w W) => HF.out W z0 h
      cases hq : inB lo hi z0
      · rw [hq] at C
        have HC := Lib.hid C; clear C
        have HQ := Lib.hid hq; clear hq
        go_wp2_with ((with_reducible refine (HC.out _ (by repeat (first | with_reducible exact Below.refl _ _ | with_reducible assumption | with_reducible apply grew_ext | with_reducible apply grew_al | with_reducible apply grew_dn | with_reducible apply grew_d | (with_reducible refine grew_set ?_ (by first | omega | (repeat (first | with_reducible exact Nat.le_refl _ | with_reducible apply le_pl | with_reducible apply le_ext | with_reducible apply le_al))) _)))).mono ?_); rintro e w' ⟨rfl, g'⟩; (first | obtain ⟨y, rfl⟩ := ext_cold g' | obtain ⟨y, rfl⟩ := ext_col g' | obtain ⟨y, rfl⟩ := ext_of g'); clear g')
        go_ret
        refine ⟨⟨k, rfl, ?_⟩, by repeat (first | with_reducible exact Below.refl _ _ | with_reducible assumption | with_reducible apply grew_ext | with_reducible apply grew_al | with_reducible apply grew_dn | with_reducible apply grew_d | (with_reducible refine grew_set ?_ (by first | omega | (repeat (first | with_reducible exact Nat.le_refl _ | with_reducible apply le_pl | with_reducible apply le_ext | with_reducible apply le_al))) _))⟩
        rw [decide_eq_true (by omega), show zs.all (inB lo hi) = false from ?_]
        · rfl
        rw [List.all_eq_false]
        exact ⟨z0, List.mem_of_getElem? HX.out, by simp [HQ.out]⟩
      · rw [hq] at C
        have HC := Lib.hid C; clear C
        have HQ := Lib.hid hq; clear hq
        go_wp2_with ((with_reducible refine (HC.out _ (by repeat (first | with_reducible exact Below.refl _ _ | with_reducible assumption | with_reducible apply grew_ext | with_reducible apply grew_al | with_reducible apply grew_dn | with_reducible apply grew_d | (with_reducible refine grew_set ?_ (by first | omega | (repeat (first | with_reducible exact Nat.le_refl _ | with_reducible apply le_pl | with_reducible apply le_ext | with_reducible apply le_al))) _)))).mono ?_); rintro e w' ⟨rfl, g'⟩; (first | obtain ⟨y, rfl⟩ := ext_cold g' | obtain ⟨y, rfl⟩ := ext_col g' | obtain ⟨y, rfl⟩ := ext_of g'); clear g')
        go_roundw
        case rel =>
          refine ⟨k + 1, by omega, by go_num, ext_of (by repeat (first | with_reducible exact Below.refl _ _ | with_reducible assumption | with_reducible apply grew_ext | with_reducible apply grew_al | with_reducible apply grew_dn | with_reducible apply grew_d | (with_reducible refine grew_set ?_ (by first | omega | (repeat (first | with_reducible exact Nat.le_refl _ | with_reducible apply le_pl | with_reducible apply le_ext | with_reducible apply le_al))) _))), fun z hz => ?_⟩
          rw [take_get HX.out] at hz
          rcases List.mem_append.1 hz with hz | hz
          · exact HA.out z hz
          · obtain rfl := List.mem_singleton.1 hz
            exact HQ.out
        case measure => simp [intOf]; omega
    · go_wp2
      go_ret
      refine ⟨⟨-1, rfl, ?_⟩, by repeat (first | with_reducible exact Below.refl _ _ | with_reducible assumption | with_reducible apply grew_ext | with_reducible apply grew_al | with_reducible apply grew_dn | with_reducible apply grew_d | (with_reducible refine grew_set ?_ (by first | omega | (repeat (first | with_reducible exact Nat.le_refl _ | with_reducible apply le_pl | with_reducible apply le_ext | with_reducible apply le_al))) _))⟩
      rw [show zs.all (inB lo hi) = true from ?_]
      · rfl
      rw [List.all_eq_true]
      exact fun z hz => HA.out z (by rw [List.take_of_length_le (by have := HL.out; omega)]; exact hz)

theorem containsFuncHas (a : Option Addr) (n cap : Nat) (zs : List Int) (lo hi : Int) (p s : Nat) (w : World) (hr : Rd w a n 1 (ints .i64 zs)) (hn : n ≤ 9223372036854775807) (hp : w.cell? ⟨p, 0, none⟩ = some (.pointer (some ⟨s, 0, none⟩))) (h8 : w.cell? ⟨s, 8, none⟩ = some (.int .i64 lo)) (h9 : w.cell? ⟨s, 9, none⟩ = some (.int .i64 hi)) (hok : itvOkB lo hi = true) :
    Calls Try.prog 77 #[.slice a n cap, .func (.func 78) #[] #[.pointer (some ⟨p, 0, none⟩)]] w fun e w' => e = .returned (.bool (!zs.all (inB lo hi))) ∧ Grew w w' := by
  have C := Lib.hid (indexFuncHas a n cap zs lo hi p s w hr hn hp h8 h9 hok)
  clear hr hp h8 h9
  go_enter Try.func77, Try.ntmps77
  go_wp2_with fail
  refine C.out.mono ?_
  rintro e w1 ⟨⟨z, rfl, hz⟩, g1⟩
  have HZ := Lib.hid hz; clear hz
  have HG := Lib.hid g1; clear g1
  go_wp2
  go_ret
  exact ⟨by rw [← HZ.out]; rfl, HG.out⟩
end Go.Proofs.Ytnjoofpllhbccaa

/- AbsHas of a state that is on and ok. No condition. -/
namespace Go.Proofs.Ytnjoofpllhbccaa
open Go.RowKit
set_option linter.unusedVariables false
attribute [local go_sem] ext_cell ext_frozen ext_lt ext_le ext_le1 lt_s2 lt_s3 lt_s4 lt_s5 lt_s6 ext_lt1 ext_lt2 ext_lt3

set_option maxHeartbeats 4000000 in
theorem implAbsHas4B (B0 B1 B2 B3 Bz : Bool) (a : Option Addr) (c : Nat) (x0 x1 x2 x3 : Itv) (lo hi : Int) (va : Option Addr) (vc : Nat) (v0 v1 v2 v3 : Int) (ca : Option Addr) (cc : Nat) (zs : List Int) (w : World) (hr : RdL EItv 2 w a 4 [x0, x1, x2, x3]) (hok : itvOkB lo hi = true) (hall : [x0, x1, x2, x3].all itvB = true) (hc : 4 ≤ c)
    (hv : Rd w va 4 1 (ints .i64 [v0, v1, v2, v3])) (hz : Rd w ca 4 1 (ints .i64 zs)) (hB0 : inB x0.lo x0.hi v0 = B0) (hB1 : inB x1.lo x1.hi v1 = B1) (hB2 : inB x2.lo x2.hi v2 = B2) (hB3 : inB x3.lo x3.hi v3 = B3) (hBz : zs.all (inB lo hi) = Bz) :
    Calls Try.prog 19 #[.agg #[.bool true, .slice a 4 c, .int .i64 lo, .int .i64 hi], .slice va 4 vc, .slice ca 4 cc] w fun e w' => e = .returned (.bool (B0 && B1 && B2 && B3 && Bz)) ∧ Grew w w' := by
  have C0 := fun W => implItvHas x0.lo x0.hi v0 W (by simp only [List.all_cons, List.all_nil, Bool.and_eq_true, itvB] at hall; exact hall.1)
  have C1 := fun W => implItvHas x1.lo x1.hi v1 W (by simp only [List.all_cons, List.all_nil, Bool.and_eq_true, itvB] at hall; exact hall.2.1)
  have C2 := fun W => implItvHas x2.lo x2.hi v2 W (by simp only [List.all_cons, List.all_nil, Bool.and_eq_true, itvB] at hall; exact hall.2.2.1)
  have C3 := fun W => implItvHas x3.lo x3.hi v3 W (by simp only [List.all_cons, List.all_nil, Bool.and_eq_true, itvB] at hall; exact hall.2.2.2.1)
  have R := readState4 a c x0 x1 x2 x3 lo hi
  obtain ⟨x0l, x0h⟩ := x0
  obtain ⟨x1l, x1h⟩ := x1
  obtain ⟨x2l, x2h⟩ := x2
  obtain ⟨x3l, x3h⟩ := x3
  dsimp only at C0 C1 C2 C3 R hB0 hB1 hB2 hB3 ⊢
  have HC0 : Hid (∀ W, Calls Try.prog 76 #[.agg #[.int .i64 x0l, .int .i64 x0h], .int .i64 v0] W fun e w' => e = .returned (.bool B0) ∧ Grew W w') := Lib.hid (by rw [← hB0]; exact C0); clear C0 hB0
  have HC1 : Hid (∀ W, Calls Try.prog 76 #[.agg #[.int .i64 x1l, .int .i64 x1h], .int .i64 v1] W fun e w' => e = .returned (.bool B1) ∧ Grew W w') := Lib.hid (by rw [← hB1]; exact C1); clear C1 hB1
  have HC2 : Hid (∀ W, Calls Try.prog 76 #[.agg #[.int .i64 x2l, .int .i64 x2h], .int .i64 v2] W fun e w' => e = .returned (.bool B2) ∧ Grew W w') := Lib.hid (by rw [← hB2]; exact C2); clear C2 hB2
  have HC3 : Hid (∀ W, Calls Try.prog 76 #[.agg #[.int .i64 x3l, .int .i64 x3h], .int .i64 v3] W fun e w' => e = .returned (.bool B3) ∧ Grew W w') := Lib.hid (by rw [← hB3]; exact C3); clear C3 hB3
  have HRS := Lib.hid (fun W (g : Grew w W) => R W (hr.grew staysItv g) hok hall hc); clear R hr hall
  have HV := Lib.hid hv; clear hv
  have HZ := Lib.hid hz; clear hz
  go_enter Try.func19, Try.ntmps19
  go_wp2_with fail
  refine (HRS.out _ (by repeat (first | with_reducible exact Below.refl _ _ | with_reducible assumption | with_reducible apply grew_ext | with_reducible apply grew_al | with_reducible apply grew_dn | with_reducible apply grew_d | (with_reducible refine grew_set ?_ (by first | omega | (repeat (first | with_reducible exact Nat.le_refl _ | with_reducible apply le_pl | with_reducible apply le_ext | with_reducible apply le_al))) _)))).mono ?_
  rintro e w1 ⟨b, rfl, lb, g1, hb⟩
  have G1 : Grew w w1 := grew_tr (by repeat (first | with_reducible exact Below.refl _ _ | with_reducible assumption | with_reducible apply grew_ext | with_reducible apply grew_al | with_reducible apply grew_dn | with_reducible apply grew_d | (with_reducible refine grew_set ?_ (by first | omega | (repeat (first | with_reducible exact Nat.le_refl _ | with_reducible apply le_pl | with_reducible apply le_ext | with_reducible apply le_al))) _))) g1
  obtain ⟨bv, ov, y0, rfl, hy0, e0⟩ := (HV.out.grew G1).at1 (show 0 < 4 by omega)
  obtain ⟨bv1, ov1, y1, hv1, hy1, e1⟩ := (HV.out.grew G1).at1 (show 1 < 4 by omega)
  simp only [Option.some.injEq, Addr.mk.injEq, and_true] at hv1
  obtain ⟨rfl, rfl⟩ := hv1
  obtain ⟨bv2, ov2, y2, hv2, hy2, e2⟩ := (HV.out.grew G1).at1 (show 2 < 4 by omega)
  simp only [Option.some.injEq, Addr.mk.injEq, and_true] at hv2
  obtain ⟨rfl, rfl⟩ := hv2
  obtain ⟨bv3, ov3, y3, hv3, hy3, e3⟩ := (HV.out.grew G1).at1 (show 3 < 4 by omega)
  simp only [Option.some.injEq, Addr.mk.injEq, and_true] at hv3
  obtain ⟨rfl, rfl⟩ := hv3
  simp only [List.getElem?_cons_zero, List.getElem?_cons_succ, Option.some.injEq] at hy0 hy1 hy2 hy3
  subst hy0 hy1 hy2 hy3
  simp only [Nat.add_zero] at e0
  have s0 : w1.cell? ⟨b, 0, none⟩ = some (.int .i64 x0l) := hb.cell 0
  have s1 : w1.cell? ⟨b, 1, none⟩ = some (.int .i64 x0h) := hb.cell 1
  have s2 : w1.cell? ⟨b, 2, none⟩ = some (.int .i64 x1l) := hb.cell 2
  have s3 : w1.cell? ⟨b, 3, none⟩ = some (.int .i64 x1h) := hb.cell 3
  have s4 : w1.cell? ⟨b, 4, none⟩ = some (.int .i64 x2l) := hb.cell 4
  have s5 : w1.cell? ⟨b, 5, none⟩ = some (.int .i64 x2h) := hb.cell 5
  have s6 : w1.cell? ⟨b, 6, none⟩ = some (.int .i64 x3l) := hb.cell 6
  have s7 : w1.cell? ⟨b, 7, none⟩ = some (.int .i64 x3h) := hb.cell 7
  have s8 : w1.cell? ⟨b, 8, none⟩ = some (.int .i64 lo) := hb.cell 8
  have s9 : w1.cell? ⟨b, 9, none⟩ = some (.int .i64 hi) := hb.cell 9
  have sl := hb.lt
  have el := World.block_lt_of_cell? w1 _ e0
  have HG := Lib.hid G1
  obtain ⟨q0, q1, q2⟩ := lt3 sl
  obtain ⟨r0, r1, r2⟩ := lt3 el
  clear hb g1 G1 HRS
  have HD : Hid (∀ W, Grew (w1.alloc (.cells #[.pointer (some ⟨b, 0, none⟩)] 96)) W → Calls Try.prog 77 #[.slice ca 4 cc, .func (.func 78) #[] #[.pointer (some ⟨w1.heap.size, 0, none⟩)]] W fun e w' => e = .returned (.bool (!Bz)) ∧ Grew W w') := Lib.hid (fun W g => by rw [← hBz]; exact containsFuncHas ca 4 cc zs lo hi w1.heap.size b W (HZ.out.grew (grew_tr (grew_al HG.out _) g)) (by omega) ((g.cell (p := ⟨w1.heap.size, 0, none⟩) (by simp)).trans (by simp [go_sem])) ((g.cell (p := ⟨b, 8, none⟩) (by simp; omega)).trans (by simp [go_sem, s8, sl])) ((g.cell (p := ⟨b, 9, none⟩) (by simp; omega)).trans (by simp [go_sem, s9, sl])) hok)
  clear hBz
  go_wp2
  refine wp_loop_rounds 5 ?_
  rw [rounds_succ]
  go_wp2_with fail
  refine (HC0.out _).mono ?_
  rintro e w2 ⟨rfl, g0⟩
  (first | obtain ⟨z0, rfl⟩ := ext_col g0 | obtain ⟨z0, rfl⟩ := ext_of g0); clear g0
  cases B0
  · go_wp2
    go_ret
    refine ⟨by simp, ?_⟩
    have h := HG.out
    repeat (first | with_reducible exact Below.refl _ _ | with_reducible assumption | with_reducible apply grew_ext | with_reducible apply grew_al | with_reducible apply grew_dn | with_reducible apply grew_d | (with_reducible refine grew_set ?_ (by first | omega | (repeat (first | with_reducible exact Nat.le_refl _ | with_reducible apply le_pl | with_reducible apply le_ext | with_reducible apply le_al))) _))
  go_wp2
  rw [rounds_succ]
  go_wp2_with fail
  refine (HC1.out _).mono ?_
  rintro e w2 ⟨rfl, g1⟩
  (first | obtain ⟨z1, rfl⟩ := ext_col g1 | obtain ⟨z1, rfl⟩ := ext_of g1); clear g1
  cases B1
  · go_wp2
    go_ret
    refine ⟨by simp, ?_⟩
    have h := HG.out
    repeat (first | with_reducible exact Below.refl _ _ | with_reducible assumption | with_reducible apply grew_ext | with_reducible apply grew_al | with_reducible apply grew_dn | with_reducible apply grew_d | (with_reducible refine grew_set ?_ (by first | omega | (repeat (first | with_reducible exact Nat.le_refl _ | with_reducible apply le_pl | with_reducible apply le_ext | with_reducible apply le_al))) _))
  go_wp2
  rw [rounds_succ]
  go_wp2_with fail
  refine (HC2.out _).mono ?_
  rintro e w2 ⟨rfl, g2⟩
  (first | obtain ⟨z2, rfl⟩ := ext_col g2 | obtain ⟨z2, rfl⟩ := ext_of g2); clear g2
  cases B2
  · go_wp2
    go_ret
    refine ⟨by simp, ?_⟩
    have h := HG.out
    repeat (first | with_reducible exact Below.refl _ _ | with_reducible assumption | with_reducible apply grew_ext | with_reducible apply grew_al | with_reducible apply grew_dn | with_reducible apply grew_d | (with_reducible refine grew_set ?_ (by first | omega | (repeat (first | with_reducible exact Nat.le_refl _ | with_reducible apply le_pl | with_reducible apply le_ext | with_reducible apply le_al))) _))
  go_wp2
  rw [rounds_succ]
  go_wp2_with fail
  refine (HC3.out _).mono ?_
  rintro e w2 ⟨rfl, g3⟩
  (first | obtain ⟨z3, rfl⟩ := ext_col g3 | obtain ⟨z3, rfl⟩ := ext_of g3); clear g3
  cases B3
  · go_wp2
    go_ret
    refine ⟨by simp, ?_⟩
    have h := HG.out
    repeat (first | with_reducible exact Below.refl _ _ | with_reducible assumption | with_reducible apply grew_ext | with_reducible apply grew_al | with_reducible apply grew_dn | with_reducible apply grew_d | (with_reducible refine grew_set ?_ (by first | omega | (repeat (first | with_reducible exact Nat.le_refl _ | with_reducible apply le_pl | with_reducible apply le_ext | with_reducible apply le_al))) _))
  go_wp2
  rw [rounds_succ]
  go_wp2_with fail
  refine (HD.out _ (by repeat (first | with_reducible exact Below.refl _ _ | with_reducible assumption | with_reducible apply grew_ext | with_reducible apply grew_al | with_reducible apply grew_dn | with_reducible apply grew_d | (with_reducible refine grew_set ?_ (by first | omega | (repeat (first | with_reducible exact Nat.le_refl _ | with_reducible apply le_pl | with_reducible apply le_ext | with_reducible apply le_al))) _)))).mono ?_
  rintro e w2 ⟨rfl, g⟩
  obtain ⟨u, rfl⟩ := ext_col g; clear g
  go_wp2
  go_ret
  refine ⟨by cases Bz <;> rfl, ?_⟩
  have h := HG.out
  repeat (first | with_reducible exact Below.refl _ _ | with_reducible assumption | with_reducible apply grew_ext | with_reducible apply grew_al | with_reducible apply grew_dn | with_reducible apply grew_d | (with_reducible refine grew_set ?_ (by first | omega | (repeat (first | with_reducible exact Nat.le_refl _ | with_reducible apply le_pl | with_reducible apply le_ext | with_reducible apply le_al))) _))
theorem implAbsHas4 (a : Option Addr) (c : Nat) (x0 x1 x2 x3 : Itv) (lo hi : Int) (va : Option Addr) (vc : Nat) (v0 v1 v2 v3 : Int) (ca : Option Addr) (cc : Nat) (zs : List Int) (w : World) (hr : RdL EItv 2 w a 4 [x0, x1, x2, x3]) (hok : itvOkB lo hi = true) (hall : [x0, x1, x2, x3].all itvB = true) (hc : 4 ≤ c)
    (hv : Rd w va 4 1 (ints .i64 [v0, v1, v2, v3])) (hz : Rd w ca 4 1 (ints .i64 zs)) :
    Calls Try.prog 19 #[.agg #[.bool true, .slice a 4 c, .int .i64 lo, .int .i64 hi], .slice va 4 vc, .slice ca 4 cc] w fun e w' => e = .returned (.bool (inB x0.lo x0.hi v0 && inB x1.lo x1.hi v1 && inB x2.lo x2.hi v2 && inB x3.lo x3.hi v3 && zs.all (inB lo hi))) ∧ Grew w w' :=
  implAbsHas4B _ _ _ _ _ a c x0 x1 x2 x3 lo hi va vc v0 v1 v2 v3 ca cc zs w hr hok hall hc hv hz rfl rfl rfl rfl rfl
end Go.Proofs.Ytnjoofpllhbccaa

/- Whether a state has variables and cells: both sides. No condition. -/
namespace Go.Proofs.Ytnjoofpllhbccaa
open Go.RowKit
set_option linter.unusedVariables false
set_option linter.unusedSimpArgs false
attribute [local go_sem] ext_cell ext_frozen ext_lt ext_le ext_le1 lt_s2 lt_s3 lt_s4 lt_s5 lt_s6 ext_lt1 ext_lt2 ext_lt3

def inP (p : Itv × Int) : Bool := inB p.1.lo p.1.hi p.2
/-- Whether a state has these variables and cells. -/
def hasB (on : Bool) (xs : List Itv) (lo hi : Int) (vs cs : List Int) : Bool := (stOkB on xs lo hi && on) && (decide (vs.length = 4) && decide (cs.length = 4)) && ((xs.zip vs).all inP && cs.all (inB lo hi))
theorem wp_letH {P : Program} {c : Code} {Q : Exit → Act → World → Prop} {a : Act} {W : World} (h : ∀ E, E = W → c.wp P Q a E) : c.wp P Q a W := h W rfl
theorem four_ints {vs : List Int} (h : vs.length = 4) : ∃ v0 v1 v2 v3, vs = [v0, v1, v2, v3] := by
  match vs, h with
  | [v0, v1, v2, v3], _ => exact ⟨v0, v1, v2, v3, rfl⟩

set_option maxHeartbeats 2000000 in
theorem implAbsHas (on : Bool) (a : Option Addr) (n c : Nat) (xs : List Itv) (lo hi : Int) (va : Option Addr) (vn vc : Nat) (vs : List Int) (ca : Option Addr) (cn cc : Nat) (cs : List Int) (w : World) (hr : RdL EItv 2 w a n xs) (hn : n ≤ 9223372036854775807) (hc : n ≤ c)
    (hv : Rd w va vn 1 (ints .i64 vs)) (hz : Rd w ca cn 1 (ints .i64 cs)) :
    Calls Try.prog 19 #[.agg #[.bool on, .slice a n c, .int .i64 lo, .int .i64 hi], .slice va vn vc, .slice ca cn cc] w fun e w' => e = .returned (.bool (hasB on xs lo hi vs cs)) ∧ Grew w w' := by
  have hvl := hv.len1
  have hzl := hz.len1
  by_cases hcase : (stOkB on xs lo hi && on) = true ∧ vs.length = 4 ∧ cs.length = 4
  · obtain ⟨h1, h2, h3⟩ := hcase
    rw [Bool.and_eq_true] at h1
    obtain ⟨h1, rfl⟩ := h1
    obtain ⟨hi1, x0, x1, x2, x3, rfl, b0, b1, b2, b3⟩ := st_four h1
    obtain rfl : 4 = n := hr.len
    obtain ⟨v0, v1, v2, v3, rfl⟩ := four_ints h2
    obtain rfl : vn = 4 := by simpa using hvl.symm
    obtain rfl : cn = 4 := by omega
    refine (implAbsHas4 a c x0 x1 x2 x3 lo hi va vc v0 v1 v2 v3 ca cc cs w hr hi1 (by simp [b0, b1, b2, b3]) hc hv hz).mono ?_
    rintro e w' ⟨rfl, g⟩
    refine ⟨?_, g⟩
    rw [hasB, h1, h3]
    simp [inP, Bool.and_assoc]
  · have HV : Hid (hasB on xs lo hi vs cs = false) := Lib.hid (by
      rw [Bool.eq_false_iff]
      intro h
      simp only [hasB, Bool.and_eq_true, decide_eq_true_eq] at h
      exact hcase ⟨by rw [Bool.and_eq_true]; exact h.1.1, h.1.2.1, h.1.2.2⟩)
    have HC := Lib.hid (fun W (h : Grew w W) => implReadState on a n c xs lo hi W (hr.grew staysItv h) hn hc)
    obtain ⟨B, hB⟩ : ∃ B, stOkB on xs lo hi = B := ⟨_, rfl⟩
    have hca : (B && on) = true → vs.length = 4 → cs.length = 4 → False := fun h1 h2 h3 => hcase ⟨by rw [hB]; exact h1, h2, h3⟩
    have HCa := Lib.hid hca
    have HBe := Lib.hid hB
    clear hr hv hz hcase hca hB
    go_enter Try.func19, Try.ntmps19
    go_wp2_with fail
    refine (HC.out _ (by repeat (first | with_reducible exact Below.refl _ _ | with_reducible assumption | with_reducible apply grew_ext | with_reducible apply grew_al | with_reducible apply grew_dn | with_reducible apply grew_d | (with_reducible refine grew_set ?_ (by first | omega | (repeat (first | with_reducible exact Nat.le_refl _ | with_reducible apply le_pl | with_reducible apply le_ext | with_reducible apply le_al))) _)))).mono ?_
    rintro e w1 ⟨g1, ⟨h, rfl⟩ | ⟨h, b, rfl, h1, h2⟩⟩
    · have HG := Lib.hid (show Grew w w1 from grew_tr (by repeat (first | with_reducible exact Below.refl _ _ | with_reducible assumption | with_reducible apply grew_ext | with_reducible apply grew_al | with_reducible apply grew_dn | with_reducible apply grew_d | (with_reducible refine grew_set ?_ (by first | omega | (repeat (first | with_reducible exact Nat.le_refl _ | with_reducible apply le_pl | with_reducible apply le_ext | with_reducible apply le_al))) _))) g1)
      rw [HBe.out]
      clear g1 h
      cases B
      all_goals
        go_wp2
        go_ret
        rw [HV.out]
        refine ⟨rfl, ?_⟩
        have hg := HG.out
        repeat (first | with_reducible exact Below.refl _ _ | with_reducible assumption | with_reducible apply grew_ext | with_reducible apply grew_al | with_reducible apply grew_dn | with_reducible apply grew_d | (with_reducible refine grew_set ?_ (by first | omega | (repeat (first | with_reducible exact Nat.le_refl _ | with_reducible apply le_pl | with_reducible apply le_ext | with_reducible apply le_al))) _))
    · have HG := Lib.hid (show Grew w w1 from grew_tr (by repeat (first | with_reducible exact Below.refl _ _ | with_reducible assumption | with_reducible apply grew_ext | with_reducible apply grew_al | with_reducible apply grew_dn | with_reducible apply grew_d | (with_reducible refine grew_set ?_ (by first | omega | (repeat (first | with_reducible exact Nat.le_refl _ | with_reducible apply le_pl | with_reducible apply le_ext | with_reducible apply le_al))) _))) g1)
      rw [HBe.out] at h
      have HH := Lib.hid h
      clear g1 h h1 h2
      by_cases hv4 : vn = 4
      · have hc4 : ¬ cn = 4 := fun e => HCa.out HH.out (by omega) (by omega)
        have hb : ((cn : Int) != 4) = true := by simp; omega
        have hb2 : (cn != 4) = true := by simp; omega
        subst hv4
        go_wp2
        go_ret
        rw [HV.out]
        refine ⟨rfl, ?_⟩
        have hg := HG.out
        repeat (first | with_reducible exact Below.refl _ _ | with_reducible assumption | with_reducible apply grew_ext | with_reducible apply grew_al | with_reducible apply grew_dn | with_reducible apply grew_d | (with_reducible refine grew_set ?_ (by first | omega | (repeat (first | with_reducible exact Nat.le_refl _ | with_reducible apply le_pl | with_reducible apply le_ext | with_reducible apply le_al))) _))
      · have hb : ((vn : Int) != 4) = true := by simp; omega
        have hb2 : (vn != 4) = true := by simp; omega
        go_wp2
        go_ret
        rw [HV.out]
        refine ⟨rfl, ?_⟩
        have hg := HG.out
        repeat (first | with_reducible exact Below.refl _ _ | with_reducible assumption | with_reducible apply grew_ext | with_reducible apply grew_al | with_reducible apply grew_dn | with_reducible apply grew_d | (with_reducible refine grew_set ?_ (by first | omega | (repeat (first | with_reducible exact Nat.le_refl _ | with_reducible apply le_pl | with_reducible apply le_ext | with_reducible apply le_al))) _))
theorem specItvHas (lo hi x : Int) (w : World) :
    Calls Try.prog 83 #[.agg #[.int .i64 lo, .int .i64 hi], .int .i64 x] w fun e w' => e = .returned (.bool (itvOkB lo hi && inB lo hi x)) ∧ Grew w w' := by
  have C := fun w => specItvOk ⟨lo, hi⟩ w
  simp only at C
  have D := fun w => l1In x lo hi w
  obtain ⟨B, hB⟩ : ∃ B, itvOkB lo hi = B := ⟨_, rfl⟩
  rw [hB] at C
  rw [hB]
  have HC := Lib.hid C
  have HD := Lib.hid D
  clear C D hB
  cases B
  all_goals
    go_enter Try.func83, Try.ntmps83
    go_wp2_with (first | ((with_reducible refine (HC.out _).mono ?_); rintro e w' ⟨rfl, g'⟩; (first | obtain ⟨y, rfl⟩ := ext_cold g' | obtain ⟨y, rfl⟩ := ext_col g' | obtain ⟨y, rfl⟩ := ext_of g'); clear g') | ((with_reducible refine (HD.out _).mono ?_); rintro e w' ⟨rfl, rfl⟩))
    go_ret
    refine ⟨by simp [inB], ?_⟩
    repeat (first | with_reducible exact Below.refl _ _ | with_reducible assumption | with_reducible apply grew_ext | with_reducible apply grew_al | with_reducible apply grew_dn | with_reducible apply grew_d | (with_reducible refine grew_set ?_ (by first | omega | (repeat (first | with_reducible exact Nat.le_refl _ | with_reducible apply le_pl | with_reducible apply le_ext | with_reducible apply le_al))) _))
set_option maxHeartbeats 2000000 in
theorem specAbsOk (on : Bool) (a : Option Addr) (n c : Nat) (xs : List Itv) (lo hi : Int) (w : World) (hr : RdL EItv 2 w a n xs) (hn : n ≤ 9223372036854775807) :
    Calls Try.prog 24 #[.agg #[.bool on, .slice a n c, .int .i64 lo, .int .i64 hi]] w fun e w' => e = .returned (.bool (stOkB on xs lo hi)) ∧ Grew w w' := by
  have hl := hr.len
  cases on
  · have C := fun w => specL7None ⟨lo, hi⟩ w
    simp only at C
    have HC := Lib.hid C
    clear C
    by_cases hn0 : n = 0
    · have HV : Hid (stOkB false xs lo hi = (decide (lo = 0) && decide (hi = 0))) := Lib.hid (by
        have : xs = [] := List.eq_nil_of_length_eq_zero (by omega)
        subst this
        simp [stOkB])
      clear hr hl
      subst hn0
      go_enter Try.func24, Try.ntmps24
      go_wp2_with ((with_reducible refine (HC.out _).mono ?_); rintro e w' ⟨rfl, g'⟩; (first | obtain ⟨y, rfl⟩ := ext_cold g' | obtain ⟨y, rfl⟩ := ext_col g' | obtain ⟨y, rfl⟩ := ext_of g'); clear g')
      go_ret
      rw [HV.out]
      refine ⟨rfl, ?_⟩
      repeat (first | with_reducible exact Below.refl _ _ | with_reducible assumption | with_reducible apply grew_ext | with_reducible apply grew_al | with_reducible apply grew_dn | with_reducible apply grew_d | (with_reducible refine grew_set ?_ (by first | omega | (repeat (first | with_reducible exact Nat.le_refl _ | with_reducible apply le_pl | with_reducible apply le_ext | with_reducible apply le_al))) _))
    · have HV : Hid (stOkB false xs lo hi = false) := Lib.hid (by
        rw [stOkB, if_neg (by simp), decide_eq_false (show ¬ xs.length = 0 by omega)]
        rfl)
      have hn1 : ((n : Int) == 0) = false := by simp; omega
      have hn2 : (n == 0) = false := by simp; omega
      clear hr hl HC
      go_enter Try.func24, Try.ntmps24
      go_wp2
      go_ret
      rw [HV.out]
      refine ⟨rfl, ?_⟩
      repeat (first | with_reducible exact Below.refl _ _ | with_reducible assumption | with_reducible apply grew_ext | with_reducible apply grew_al | with_reducible apply grew_dn | with_reducible apply grew_d | (with_reducible refine grew_set ?_ (by first | omega | (repeat (first | with_reducible exact Nat.le_refl _ | with_reducible apply le_pl | with_reducible apply le_ext | with_reducible apply le_al))) _))
  · have HO := Lib.hid (fun x w => specItvOk x w)
    have C := fun w => specItvOk ⟨lo, hi⟩ w
    simp only at C
    obtain ⟨B1, hB1⟩ : ∃ B, itvOkB lo hi = B := ⟨_, rfl⟩
    rw [hB1] at C
    have HB1 := Lib.hid hB1
    have HC := Lib.hid C
    have HR := Lib.hid hr
    clear C hB1 hr
    by_cases h4 : n = 4
    · subst h4
      have HL := Lib.hid hl
      clear hl
      cases B1
      · have HV : Hid (stOkB true xs lo hi = false) := Lib.hid (by rw [stOkB, if_pos rfl, HB1.out]; simp)
        go_enter Try.func24, Try.ntmps24
        go_wp2_with ((with_reducible refine (HC.out _).mono ?_); rintro e w' ⟨rfl, g'⟩; (first | obtain ⟨y, rfl⟩ := ext_cold g' | obtain ⟨y, rfl⟩ := ext_col g' | obtain ⟨y, rfl⟩ := ext_of g'); clear g')
        go_ret
        rw [HV.out]
        refine ⟨rfl, ?_⟩
        repeat (first | with_reducible exact Below.refl _ _ | with_reducible assumption | with_reducible apply grew_ext | with_reducible apply grew_al | with_reducible apply grew_dn | with_reducible apply grew_d | (with_reducible refine grew_set ?_ (by first | omega | (repeat (first | with_reducible exact Nat.le_refl _ | with_reducible apply le_pl | with_reducible apply le_ext | with_reducible apply le_al))) _))
      · have HV : Hid (stOkB true xs lo hi = xs.all itvB) := Lib.hid (by rw [stOkB, if_pos rfl, HB1.out, HL.out]; simp)
        go_enter Try.func24, Try.ntmps24
        go_wp2_with ((with_reducible refine (HC.out _).mono ?_); rintro e w' ⟨rfl, g'⟩; (first | obtain ⟨y, rfl⟩ := ext_cold g' | obtain ⟨y, rfl⟩ := ext_col g' | obtain ⟨y, rfl⟩ := ext_of g'); clear g')
        refine wp_letH ?_
        intro E hE
        have GE : Grew w E := by rw [hE]; repeat (first | with_reducible exact Below.refl _ _ | with_reducible assumption | with_reducible apply grew_ext | with_reducible apply grew_al | with_reducible apply grew_dn | with_reducible apply grew_d | (with_reducible refine grew_set ?_ (by first | omega | (repeat (first | with_reducible exact Nat.le_refl _ | with_reducible apply le_pl | with_reducible apply le_ext | with_reducible apply le_al))) _))
        have q1 : E.cell? ⟨w.heap.size, 1, none⟩ = some (.slice a 4 c) := by rw [hE]; simp [go_sem]
        have l0 : w.heap.size < E.heap.size := by rw [hE]; have := ext_size _ y; simp only [World.size_alloc] at this; omega
        have HSO := Lib.hid (fun W (h : Grew E W) => (⟨(h.cell (p := ⟨w.heap.size, 1, none⟩) l0).trans q1, Nat.lt_of_lt_of_le l0 h.size⟩ : W.cell? ⟨w.heap.size, 1, none⟩ = some (.slice a 4 c) ∧ w.heap.size < W.heap.size))
        have HGE := Lib.hid GE
        clear hE q1 l0 GE HC
        go_loopw [3] (fun i wr => ∃ k : Nat, k ≤ 4 ∧ i = .int .i64 k ∧ Grew E wr ∧ ∀ x, x ∈ xs.take k → itvB x = true) (fun i _ => 4 - (intOf i).toNat)
        case atStart => exact ⟨0, Nat.zero_le _, rfl, Below.refl _ _, by simp⟩
        case round =>
          obtain ⟨k, hk, rfl, hg, hall⟩ := hrel
          obtain ⟨q1, l0⟩ := HSO.out _ hg
          have HG := Lib.hid hg
          have HA := Lib.hid hall
          clear hall
          by_cases hlt : k < 4
          · obtain ⟨b, off, xl, xh, rfl, hx, c0, c1, hb⟩ := rdItv_at (HR.out.grew staysItv (grew_tr HGE.out hg)) hlt
            have HX := Lib.hid hx
            have C := fun W => HO.out ⟨xl, xh⟩ W
            simp only at C
            clear hx hg
            cases hq : itvOkB xl xh
            · rw [hq] at C
              have HCk := Lib.hid C
              have HF : Hid (xs.all itvB = false) := Lib.hid (by rw [List.all_eq_false]; exact ⟨_, List.mem_of_getElem? HX.out, by simp [itvB, hq]⟩)
              clear C hq
              go_wp2_with ((with_reducible refine (HCk.out _).mono ?_); rintro e w' ⟨rfl, g'⟩; (first | obtain ⟨u, rfl⟩ := ext_cold g' | obtain ⟨u, rfl⟩ := ext_col g' | obtain ⟨u, rfl⟩ := ext_of g'); clear g')
              go_ret
              rw [HV.out, HF.out]
              refine ⟨rfl, ?_⟩
              have h1 := grew_tr HGE.out HG.out
              repeat (first | with_reducible exact Below.refl _ _ | with_reducible assumption | with_reducible apply grew_ext | with_reducible apply grew_al | with_reducible apply grew_dn | with_reducible apply grew_d | (with_reducible refine grew_set ?_ (by first | omega | (repeat (first | with_reducible exact Nat.le_refl _ | with_reducible apply le_pl | with_reducible apply le_ext | with_reducible apply le_al))) _))
            · rw [hq] at C
              have HCk := Lib.hid C
              have HQ := Lib.hid hq
              clear C hq
              go_wp2_with ((with_reducible refine (HCk.out _).mono ?_); rintro e w' ⟨rfl, g'⟩; (first | obtain ⟨u, rfl⟩ := ext_cold g' | obtain ⟨u, rfl⟩ := ext_col g' | obtain ⟨u, rfl⟩ := ext_of g'); clear g')
              have HG2 := Lib.hid (show Grew E (ext wr u) from grew_tr HG.out (by repeat (first | with_reducible exact Below.refl _ _ | with_reducible assumption | with_reducible apply grew_ext | with_reducible apply grew_al | with_reducible apply grew_dn | with_reducible apply grew_d | (with_reducible refine grew_set ?_ (by first | omega | (repeat (first | with_reducible exact Nat.le_refl _ | with_reducible apply le_pl | with_reducible apply le_ext | with_reducible apply le_al))) _))))
              go_roundw
              case rel =>
                refine ⟨k + 1, by omega, by go_num, HG2.out, fun x hx => ?_⟩
                rw [take_get HX.out] at hx
                rcases List.mem_append.1 hx with hx | hx
                · exact HA.out x hx
                · rw [List.mem_singleton.1 hx]
                  exact HQ.out
              case measure => simp [intOf]; omega
          · obtain rfl : k = 4 := by omega
            have HF : Hid (xs.all itvB = true) := Lib.hid (by
              rw [List.all_eq_true]
              exact fun x hx => HA.out x (by rw [List.take_of_length_le (by rw [HL.out]; exact Nat.le_refl _)]; exact hx))
            clear hg
            go_wp2
            go_ret
            rw [HV.out, HF.out]
            exact ⟨rfl, grew_tr HGE.out HG.out⟩
    · have HV : Hid (stOkB true xs lo hi = false) := Lib.hid (by
        rw [stOkB, if_pos rfl, decide_eq_false (show ¬ xs.length = 4 by omega)]
        rfl)
      have hn1 : ((n : Int) != 4) = true := by simp; omega
      have hn2 : (n != 4) = true := by simp; omega
      clear hl
      go_enter Try.func24, Try.ntmps24
      go_wp2
      go_ret
      rw [HV.out]
      refine ⟨rfl, ?_⟩
      repeat (first | with_reducible exact Below.refl _ _ | with_reducible assumption | with_reducible apply grew_ext | with_reducible apply grew_al | with_reducible apply grew_dn | with_reducible apply grew_d | (with_reducible refine grew_set ?_ (by first | omega | (repeat (first | with_reducible exact Nat.le_refl _ | with_reducible apply le_pl | with_reducible apply le_ext | with_reducible apply le_al))) _))
end Go.Proofs.Ytnjoofpllhbccaa

/- Whether a state has variables and cells: the reference's side. No condition. -/
namespace Go.Proofs.Ytnjoofpllhbccaa
open Go.RowKit
set_option linter.unusedVariables false
set_option linter.unusedSimpArgs false
attribute [local go_sem] ext_cell ext_frozen ext_lt ext_le ext_le1 lt_s2 lt_s3 lt_s4 lt_s5 lt_s6 ext_lt1 ext_lt2 ext_lt3

theorem zip_at {xs : List Itv} {vs : List Int} {k : Nat} {x : Itv} {v : Int} (h1 : xs[k]? = some x) (h2 : vs[k]? = some v) : (xs.zip vs)[k]? = some (x, v) := by
  rw [List.getElem?_zip_eq_some]
  exact ⟨h1, h2⟩
theorem itvB_all {xs : List Itv} {lo hi : Int} (h : stOkB true xs lo hi = true) : ∀ x, x ∈ xs → itvB x = true := by
  obtain ⟨_, x0, x1, x2, x3, rfl, b0, b1, b2, b3⟩ := st_four h
  intro x hx
  simp only [List.mem_cons, List.not_mem_nil, or_false] at hx
  rcases hx with rfl | rfl | rfl | rfl <;> assumption
set_option maxHeartbeats 4000000 in
theorem specAbsHas (on : Bool) (a : Option Addr) (n c : Nat) (xs : List Itv) (lo hi : Int) (va : Option Addr) (vn vc : Nat) (vs : List Int) (ca : Option Addr) (cn cc : Nat) (cs : List Int) (w : World) (hr : RdL EItv 2 w a n xs) (hn : n ≤ 9223372036854775807)
    (hv : Rd w va vn 1 (ints .i64 vs)) (hz : Rd w ca cn 1 (ints .i64 cs)) :
    Calls Try.prog 22 #[.agg #[.bool on, .slice a n c, .int .i64 lo, .int .i64 hi], .slice va vn vc, .slice ca cn cc] w fun e w' => e = .returned (.bool (hasB on xs lo hi vs cs)) ∧ Grew w w' := by
  have hvl := hv.len1
  have hzl := hz.len1
  have HC := Lib.hid (fun W (h : Grew w W) => specAbsOk on a n c xs lo hi W (hr.grew staysItv h) hn)
  by_cases hcase : (stOkB on xs lo hi && on) = true ∧ vs.length = 4 ∧ cs.length = 4
  · obtain ⟨h1, h2, h3⟩ := hcase
    rw [Bool.and_eq_true] at h1
    obtain ⟨h1, rfl⟩ := h1
    have HAll := Lib.hid (itvB_all h1)
    obtain ⟨hi1, _⟩ := st_four h1
    have hx4 : xs.length = 4 := by obtain ⟨_, x0, x1, x2, x3, rfl, _⟩ := st_four h1; rfl
    obtain rfl : n = 4 := by rw [← hx4]; exact hr.len.symm
    obtain rfl : vn = 4 := by omega
    obtain rfl : cn = 4 := by omega
    have HV : Hid (hasB true xs lo hi vs cs = ((xs.zip vs).all inP && cs.all (inB lo hi))) := Lib.hid (by rw [hasB, h1, h2, h3]; simp)
    have HCo : Hid (∀ W, Grew w W → Calls Try.prog 24 #[.agg #[.bool true, .slice a 4 c, .int .i64 lo, .int .i64 hi]] W fun e w' => e = .returned (.bool true) ∧ Grew W w') := Lib.hid (fun W h => by have := HC.out W h; rw [h1] at this; exact this)
    have HI := Lib.hid (fun x W => specItvHas lo hi x W)
    rw [hi1] at HI
    simp only [Bool.true_and] at HI
    have HIx := Lib.hid (fun (x : Itv) (hx : x ∈ xs) (v : Int) W => (by have := specItvHas x.lo x.hi v W; have h := HAll.out x hx; rw [itvB] at h; rw [h, Bool.true_and] at this; exact this : Calls Try.prog 83 #[.agg #[.int .i64 x.lo, .int .i64 x.hi], .int .i64 v] W fun e w' => e = .returned (.bool (inB x.lo x.hi v)) ∧ Grew W w'))
    have HR := Lib.hid hr
    have HVs := Lib.hid hv
    have HCs := Lib.hid hz
    have HL := Lib.hid hx4
    have HVl := Lib.hid h2
    have HCl := Lib.hid h3
    clear hr hv hz h1 h2 h3 hi1 hx4 HC hvl hzl
    go_enter Try.func22, Try.ntmps22
    go_wp2_with ((with_reducible refine (HCo.out _ (by repeat (first | with_reducible exact Below.refl _ _ | with_reducible assumption | with_reducible apply grew_ext | with_reducible apply grew_al | with_reducible apply grew_dn | with_reducible apply grew_d | (with_reducible refine grew_set ?_ (by first | omega | (repeat (first | with_reducible exact Nat.le_refl _ | with_reducible apply le_pl | with_reducible apply le_ext | with_reducible apply le_al))) _)))).mono ?_); rintro e w' ⟨rfl, g'⟩; (first | obtain ⟨y, rfl⟩ := ext_cold g' | obtain ⟨y, rfl⟩ := ext_col g' | obtain ⟨y, rfl⟩ := ext_of g'); clear g')
    refine wp_letH ?_
    intro E hE
    have GE : Grew w E := by rw [hE]; repeat (first | with_reducible exact Below.refl _ _ | with_reducible assumption | with_reducible apply grew_ext | with_reducible apply grew_al | with_reducible apply grew_dn | with_reducible apply grew_d | (with_reducible refine grew_set ?_ (by first | omega | (repeat (first | with_reducible exact Nat.le_refl _ | with_reducible apply le_pl | with_reducible apply le_ext | with_reducible apply le_al))) _))
    have q1 : E.cell? ⟨w.heap.size, 1, none⟩ = some (.slice a 4 c) := by rw [hE]; simp [go_sem]
    have q2 : E.cell? ⟨w.heap.size, 2, none⟩ = some (.int .i64 lo) := by rw [hE]; simp [go_sem]
    have q3 : E.cell? ⟨w.heap.size, 3, none⟩ = some (.int .i64 hi) := by rw [hE]; simp [go_sem]
    have l0 : w.heap.size < E.heap.size := by rw [hE]; have := ext_size _ y; simp only [World.size_alloc] at this; omega
    have HSO := Lib.hid (fun W (h : Grew E W) => (⟨(h.cell (p := ⟨w.heap.size, 1, none⟩) l0).trans q1, (h.cell (p := ⟨w.heap.size, 2, none⟩) l0).trans q2, (h.cell (p := ⟨w.heap.size, 3, none⟩) l0).trans q3, Nat.lt_of_lt_of_le l0 h.size⟩ : W.cell? ⟨w.heap.size, 1, none⟩ = some (.slice a 4 c) ∧ W.cell? ⟨w.heap.size, 2, none⟩ = some (.int .i64 lo) ∧ W.cell? ⟨w.heap.size, 3, none⟩ = some (.int .i64 hi) ∧ w.heap.size < W.heap.size))
    have HGE := Lib.hid GE
    clear hE q1 q2 q3 l0 GE HCo
    go_loopw [7] (fun i wr => ∃ k : Nat, k ≤ 4 ∧ i = .int .i64 k ∧ Grew E wr ∧ ∀ p, p ∈ (xs.zip vs).take k → inP p = true) (fun i _ => 4 - (intOf i).toNat)
    case atStart => exact ⟨0, Nat.zero_le _, rfl, Below.refl _ _, by simp⟩
    case round =>
      obtain ⟨k, hk, rfl, hg, hall⟩ := hrel
      obtain ⟨q1, q2, q3, l0⟩ := HSO.out _ hg
      have HG := Lib.hid hg
      have HA := Lib.hid hall
      clear hall
      by_cases hlt : k < 4
      · obtain ⟨b, off, xl, xh, rfl, hx, c0, c1, hb⟩ := rdItv_at (HR.out.grew staysItv (grew_tr HGE.out hg)) hlt
        obtain ⟨b2, off2, v, rfl, hv, cv⟩ := (HVs.out.grew (grew_tr HGE.out hg)).at1 hlt
        have hb2 := World.block_lt_of_cell? _ _ cv
        simp only at hb2
        have HZ := Lib.hid (zip_at hx hv)
        have C := fun W => HIx.out ⟨xl, xh⟩ (List.mem_of_getElem? hx) v W
        simp only at C
        clear hx hv hg
        cases hq : inB xl xh v
        · rw [hq] at C
          have HCk := Lib.hid C
          have HF : Hid ((xs.zip vs).all inP = false) := Lib.hid (by rw [List.all_eq_false]; exact ⟨_, List.mem_of_getElem? HZ.out, by simp [inP, hq]⟩)
          clear C hq
          go_wp2_with fail
          first | refine wp_region_ext2 (by kernel_rfl) (by kernel_rfl) ?_ | refine wp_region_ext (by kernel_rfl) (by kernel_rfl) ?_
          repeat (go_big_quiet_step ((first | (with_reducible exact ext_grow (HCk.out _)))))
          refine wpQuiet_nil ?_
          intro _ hw'
          obtain ⟨u, hw''⟩ := hw'
          subst hw''
          have HG2 := Lib.hid (show Grew E (ext wr u) from grew_tr HG.out (by repeat (first | with_reducible exact Below.refl _ _ | with_reducible assumption | with_reducible apply grew_ext | with_reducible apply grew_al | with_reducible apply grew_dn | with_reducible apply grew_d | (with_reducible refine grew_set ?_ (by first | omega | (repeat (first | with_reducible exact Nat.le_refl _ | with_reducible apply le_pl | with_reducible apply le_ext | with_reducible apply le_al))) _))))
          clear q1 q2 q3 l0 c0 c1 cv
          go_wp2
          go_ret
          rw [HV.out, HF.out]
          exact ⟨rfl, grew_tr HGE.out HG2.out⟩
        · rw [hq] at C
          have HCk := Lib.hid C
          have HQ := Lib.hid hq
          clear C hq
          go_wp2_with fail
          first | refine wp_region_ext2 (by kernel_rfl) (by kernel_rfl) ?_ | refine wp_region_ext (by kernel_rfl) (by kernel_rfl) ?_
          repeat (go_big_quiet_step ((first | (with_reducible exact ext_grow (HCk.out _)))))
          refine wpQuiet_nil ?_
          intro _ hw'
          obtain ⟨u, hw''⟩ := hw'
          subst hw''
          have HG2 := Lib.hid (show Grew E (ext wr u) from grew_tr HG.out (by repeat (first | with_reducible exact Below.refl _ _ | with_reducible assumption | with_reducible apply grew_ext | with_reducible apply grew_al | with_reducible apply grew_dn | with_reducible apply grew_d | (with_reducible refine grew_set ?_ (by first | omega | (repeat (first | with_reducible exact Nat.le_refl _ | with_reducible apply le_pl | with_reducible apply le_ext | with_reducible apply le_al))) _))))
          clear q1 q2 q3 l0 c0 c1 cv
          go_wp2
          go_roundw
          case rel =>
            refine ⟨k + 1, by omega, by go_num, HG2.out, fun p hp => ?_⟩
            rw [take_get HZ.out] at hp
            rcases List.mem_append.1 hp with hp | hp
            · exact HA.out p hp
            · rw [List.mem_singleton.1 hp]
              exact HQ.out
          case measure => simp [intOf]; omega
      · obtain rfl : k = 4 := by omega
        have HF : Hid ((xs.zip vs).all inP = true) := Lib.hid (by
          rw [List.all_eq_true]
          exact fun p hp => HA.out p (by rw [List.take_of_length_le (by rw [List.length_zip, HL.out, HVl.out]; exact Nat.le_refl _)]; exact hp))
        clear q1 q2 q3 l0 hg HA
        obtain ⟨q1, q2, q3, l0⟩ := HSO.out _ HG.out
        go_wp2
        clear q1 q2 q3 l0
        go_loopw [8] (fun i wq => ∃ k : Nat, k ≤ 4 ∧ i = .int .i64 k ∧ Grew wr wq ∧ ∀ p, p ∈ cs.take k → inB lo hi p = true) (fun i _ => 4 - (intOf i).toNat)
        case atStart => exact ⟨0, Nat.zero_le _, rfl, Below.refl _ _, by simp⟩
        case round =>
          obtain ⟨k, hk, rfl, hg, hall⟩ := hrel
          obtain ⟨q1, q2, q3, l0⟩ := HSO.out _ (grew_tr HG.out hg)
          have HGk := Lib.hid (grew_tr HG.out hg)
          have HA := Lib.hid hall
          clear hall
          by_cases hlt : k < 4
          · obtain ⟨b2, off2, v, rfl, hv, cv⟩ := (HCs.out.grew (grew_tr HGE.out HGk.out)).at1 hlt
            have hb2 := World.block_lt_of_cell? _ _ cv
            simp only at hb2
            have HZ := Lib.hid hv
            have C := fun W => HI.out v W
            have HGq := Lib.hid hg
            clear hv hg
            cases hq : inB lo hi v
            · rw [hq] at C
              have HCk := Lib.hid C
              have HF2 : Hid (cs.all (inB lo hi) = false) := Lib.hid (by rw [List.all_eq_false]; exact ⟨_, List.mem_of_getElem? HZ.out, by simp [hq]⟩)
              clear C hq
              go_wp2_with fail
              first | refine wp_region_ext2 (by kernel_rfl) (by kernel_rfl) ?_ | refine wp_region_ext (by kernel_rfl) (by kernel_rfl) ?_
              repeat (go_big_quiet_step ((first | (with_reducible exact ext_grow (HCk.out _)))))
              refine wpQuiet_nil ?_
              intro _ hw'
              obtain ⟨u, hw''⟩ := hw'
              subst hw''
              have HG2 := Lib.hid (show Grew E (ext wr u) from grew_tr HGk.out (by repeat (first | with_reducible exact Below.refl _ _ | with_reducible assumption | with_reducible apply grew_ext | with_reducible apply grew_al | with_reducible apply grew_dn | with_reducible apply grew_d | (with_reducible refine grew_set ?_ (by first | omega | (repeat (first | with_reducible exact Nat.le_refl _ | with_reducible apply le_pl | with_reducible apply le_ext | with_reducible apply le_al))) _))))
              clear q1 q2 q3 l0 cv
              go_wp2
              go_ret
              rw [HV.out, HF.out, HF2.out]
              exact ⟨rfl, grew_tr HGE.out HG2.out⟩
            · rw [hq] at C
              have HCk := Lib.hid C
              have HQ := Lib.hid hq
              clear C hq
              go_wp2_with fail
              first | refine wp_region_ext2 (by kernel_rfl) (by kernel_rfl) ?_ | refine wp_region_ext (by kernel_rfl) (by kernel_rfl) ?_
              repeat (go_big_quiet_step ((first | (with_reducible exact ext_grow (HCk.out _)))))
              refine wpQuiet_nil ?_
              intro _ hw'
              obtain ⟨u, hw''⟩ := hw'
              subst hw''
              have HG2 := Lib.hid (grew_tr HGq.out (show Grew _ (ext _ u) from by repeat (first | with_reducible exact Below.refl _ _ | with_reducible assumption | with_reducible apply grew_ext | with_reducible apply grew_al | with_reducible apply grew_dn | with_reducible apply grew_d | (with_reducible refine grew_set ?_ (by first | omega | (repeat (first | with_reducible exact Nat.le_refl _ | with_reducible apply le_pl | with_reducible apply le_ext | with_reducible apply le_al))) _))))
              clear q1 q2 q3 l0 cv
              go_wp2
              go_roundw
              case rel =>
                refine ⟨k + 1, by omega, by go_num, HG2.out, fun p hp => ?_⟩
                rw [take_get HZ.out] at hp
                rcases List.mem_append.1 hp with hp | hp
                · exact HA.out p hp
                · rw [List.mem_singleton.1 hp]
                  exact HQ.out
              case measure => simp [intOf]; omega
          · obtain rfl : k = 4 := by omega
            have HF2 : Hid (cs.all (inB lo hi) = true) := Lib.hid (by
              rw [List.all_eq_true]
              exact fun p hp => HA.out p (by rw [List.take_of_length_le (by rw [HCl.out]; exact Nat.le_refl _)]; exact hp))
            clear hg
            go_wp2
            go_ret
            rw [HV.out, HF.out, HF2.out]
            exact ⟨rfl, grew_tr HGE.out HGk.out⟩
  · have HV : Hid (hasB on xs lo hi vs cs = false) := Lib.hid (by
      rw [Bool.eq_false_iff]
      intro h
      simp only [hasB, Bool.and_eq_true, decide_eq_true_eq] at h
      exact hcase ⟨by rw [Bool.and_eq_true]; exact h.1.1, h.1.2.1, h.1.2.2⟩)
    obtain ⟨B, hB⟩ : ∃ B, stOkB on xs lo hi = B := ⟨_, rfl⟩
    have hca : (B && on) = true → vs.length = 4 → cs.length = 4 → False := fun h1 h2 h3 => hcase ⟨by rw [hB]; exact h1, h2, h3⟩
    rw [hB] at HC
    have HCa := Lib.hid hca
    clear hr hv hz hcase hca hB
    cases B
    · go_enter Try.func22, Try.ntmps22
      go_wp2_with ((with_reducible refine (HC.out _ (by repeat (first | with_reducible exact Below.refl _ _ | with_reducible assumption | with_reducible apply grew_ext | with_reducible apply grew_al | with_reducible apply grew_dn | with_reducible apply grew_d | (with_reducible refine grew_set ?_ (by first | omega | (repeat (first | with_reducible exact Nat.le_refl _ | with_reducible apply le_pl | with_reducible apply le_ext | with_reducible apply le_al))) _)))).mono ?_); rintro e w' ⟨rfl, g'⟩; (first | obtain ⟨y, rfl⟩ := ext_cold g' | obtain ⟨y, rfl⟩ := ext_col g' | obtain ⟨y, rfl⟩ := ext_of g'); clear g')
      go_ret
      rw [HV.out]
      refine ⟨rfl, ?_⟩
      repeat (first | with_reducible exact Below.refl _ _ | with_reducible assumption | with_reducible apply grew_ext | with_reducible apply grew_al | with_reducible apply grew_dn | with_reducible apply grew_d | (with_reducible refine grew_set ?_ (by first | omega | (repeat (first | with_reducible exact Nat.le_refl _ | with_reducible apply le_pl | with_reducible apply le_ext | with_reducible apply le_al))) _))
    · cases on
      · go_enter Try.func22, Try.ntmps22
        go_wp2_with ((with_reducible refine (HC.out _ (by repeat (first | with_reducible exact Below.refl _ _ | with_reducible assumption | with_reducible apply grew_ext | with_reducible apply grew_al | with_reducible apply grew_dn | with_reducible apply grew_d | (with_reducible refine grew_set ?_ (by first | omega | (repeat (first | with_reducible exact Nat.le_refl _ | with_reducible apply le_pl | with_reducible apply le_ext | with_reducible apply le_al))) _)))).mono ?_); rintro e w' ⟨rfl, g'⟩; (first | obtain ⟨y, rfl⟩ := ext_cold g' | obtain ⟨y, rfl⟩ := ext_col g' | obtain ⟨y, rfl⟩ := ext_of g'); clear g')
        go_ret
        rw [HV.out]
        refine ⟨rfl, ?_⟩
        repeat (first | with_reducible exact Below.refl _ _ | with_reducible assumption | with_reducible apply grew_ext | with_reducible apply grew_al | with_reducible apply grew_dn | with_reducible apply grew_d | (with_reducible refine grew_set ?_ (by first | omega | (repeat (first | with_reducible exact Nat.le_refl _ | with_reducible apply le_pl | with_reducible apply le_ext | with_reducible apply le_al))) _))
      · by_cases hv4 : vn = 4
        · have hc4 : ¬ cn = 4 := fun e => HCa.out rfl (by omega) (by omega)
          have hb : ((cn : Int) != 4) = true := by simp; omega
          have hb2 : (cn != 4) = true := by simp; omega
          subst hv4
          go_enter Try.func22, Try.ntmps22
          go_wp2_with ((with_reducible refine (HC.out _ (by repeat (first | with_reducible exact Below.refl _ _ | with_reducible assumption | with_reducible apply grew_ext | with_reducible apply grew_al | with_reducible apply grew_dn | with_reducible apply grew_d | (with_reducible refine grew_set ?_ (by first | omega | (repeat (first | with_reducible exact Nat.le_refl _ | with_reducible apply le_pl | with_reducible apply le_ext | with_reducible apply le_al))) _)))).mono ?_); rintro e w' ⟨rfl, g'⟩; (first | obtain ⟨y, rfl⟩ := ext_cold g' | obtain ⟨y, rfl⟩ := ext_col g' | obtain ⟨y, rfl⟩ := ext_of g'); clear g')
          go_ret
          rw [HV.out]
          refine ⟨rfl, ?_⟩
          repeat (first | with_reducible exact Below.refl _ _ | with_reducible assumption | with_reducible apply grew_ext | with_reducible apply grew_al | with_reducible apply grew_dn | with_reducible apply grew_d | (with_reducible refine grew_set ?_ (by first | omega | (repeat (first | with_reducible exact Nat.le_refl _ | with_reducible apply le_pl | with_reducible apply le_ext | with_reducible apply le_al))) _))
        · have hb : ((vn : Int) != 4) = true := by simp; omega
          have hb2 : (vn != 4) = true := by simp; omega
          go_enter Try.func22, Try.ntmps22
          go_wp2_with ((with_reducible refine (HC.out _ (by repeat (first | with_reducible exact Below.refl _ _ | with_reducible assumption | with_reducible apply grew_ext | with_reducible apply grew_al | with_reducible apply grew_dn | with_reducible apply grew_d | (with_reducible refine grew_set ?_ (by first | omega | (repeat (first | with_reducible exact Nat.le_refl _ | with_reducible apply le_pl | with_reducible apply le_ext | with_reducible apply le_al))) _)))).mono ?_); rintro e w' ⟨rfl, g'⟩; (first | obtain ⟨y, rfl⟩ := ext_cold g' | obtain ⟨y, rfl⟩ := ext_col g' | obtain ⟨y, rfl⟩ := ext_of g'); clear g')
          go_ret
          rw [HV.out]
          refine ⟨rfl, ?_⟩
          repeat (first | with_reducible exact Below.refl _ _ | with_reducible assumption | with_reducible apply grew_ext | with_reducible apply grew_al | with_reducible apply grew_dn | with_reducible apply grew_d | (with_reducible refine grew_set ?_ (by first | omega | (repeat (first | with_reducible exact Nat.le_refl _ | with_reducible apply le_pl | with_reducible apply le_ext | with_reducible apply le_al))) _))
end Go.Proofs.Ytnjoofpllhbccaa
