/- Lemmas and walks of this proof, some texts one behind the other. No condition. -/
import Derived.Test.YtdddhnepanjmfaaGreatGlue
set_option linter.unusedSimpArgs false
set_option linter.unusedVariables false
/- SumsOk of the reference and of the program. No condition. -/
namespace Go.Proofs.YtdddhnepanjmfaaGreat
open Go.RowKit Go.ChangeShapes Go.WideShapes Go.Deep
set_option linter.unusedVariables false
attribute [local go_sem] ext_cell ext_frozen ext_lt ext_le ext_le1 lt_s2 lt_s3 lt_s4 lt_s5 lt_s6 ext_lt1 ext_lt2 ext_lt3

section
variable {H : Type} {enc : TypeId × Value → H} {w : World} {base : Nat} {spare : Nat → Bool} {held : Bool}
theorem trod_itv (n : Nat) (cs : List Value) (y : DataW H × List MemPlace) (h : DataW.trod enc Tryz.prog w base spare held n 149 cs = some y) : ∃ x, EItv w cs x ∧ ItvWf x := by
  obtain ⟨hl, m, hf⟩ := trod_fields Tryz.underlying149 (by kernel_rfl) (by kernel_rfl) h
  match cs, hl with
  | [c0, c1], _ =>
    obtain ⟨u0, x0, e0, t0⟩ := hf 0 _ rfl
    obtain ⟨u1, x1, e1, t1⟩ := hf 1 _ rfl
    obtain ⟨n0, h0, w0⟩ := trod_i64 t0
    obtain ⟨n1, h1, w1⟩ := trod_i64 t1
    simp only [List.getElem?_cons_zero, List.getElem?_cons_succ, Option.some.injEq, List.cons.injEq, and_true] at e0 e1 h0 h1
    subst h0 h1
    subst e0 e1
    exact ⟨⟨n0, n1⟩, rfl, ⟨w0, w1⟩⟩
set_option maxRecDepth 100000 in
theorem trod_sum (n : Nat) (cs : List Value) (y : DataW H × List MemPlace) (h : DataW.trod enc Tryz.prog w base spare held n 151 cs = some y) : ∃ x, ESum w cs x ∧ SumWf x := by
  obtain ⟨ys, m, _, _, hlen, hyl, hf⟩ := DataW.trod_struct Tryz.underlying151 h
  rw [show Tryz.prog.cellsOf 151 = 3 from by kernel_rfl] at hlen
  match cs, hlen with
  | [c0, c1, c2], _ =>
    have h0 := hf 0 _ rfl
    have h1 := hf 1 _ rfl
    have hy0 : ys[0]? = some (ys[0]'(by rw [hyl]; decide)) := List.getElem?_eq_getElem _
    have hy1 : ys[1]? = some (ys[1]'(by rw [hyl]; decide)) := List.getElem?_eq_getElem _
    rw [hy0] at h0
    rw [hy1] at h1
    obtain ⟨b, hb, _⟩ := DataW.trod_bool Tryz.underlying4 h0
    obtain ⟨⟨lo, hi⟩, hx, hw⟩ := trod_itv _ _ _ h1
    have hx1 : [c1, c2] = [.int .i64 lo, .int .i64 hi] := hx
    have hb1 : [c0] = [.bool b] := hb
    simp only [List.cons.injEq, and_true] at hx1 hb1
    obtain ⟨rfl, rfl⟩ := hx1
    subst hb1
    exact ⟨⟨b, lo, hi⟩, rfl, ⟨hw.lo, hw.hi⟩⟩
end

theorem specItvOk (x : Itv) (w : World) : Calls Tryz.prog 76 #[x.v] w fun e w' => e = .returned (.bool (itvOkB x.lo x.hi)) ∧ Grew w w' := by
  obtain ⟨lo, hi⟩ := x
  go_enter Tryz.func76, Tryz.ntmps76
  go_wp2_with ((with_reducible refine (specNumOk _ _).mono ?_); rintro e w' ⟨rfl, rfl⟩)
  all_goals
    go_ret
    refine ⟨by go_light; simp_all [itvOkB] <;> omega, ?_⟩
    exact gr

theorem specL7None (x : Itv) (w : World) : Calls Tryz.prog 75 #[x.v] w fun e w' => e = .returned (.bool (decide (x.lo = 0) && decide (x.hi = 0))) ∧ Grew w w' := by
  obtain ⟨lo, hi⟩ := x
  go_enter Tryz.func75, Tryz.ntmps75
  go_wp2
  all_goals
    go_ret
    refine ⟨by go_light; by_cases h1 : lo = 0 <;> by_cases h2 : hi = 0 <;> simp_all, ?_⟩
    exact gr

/-- Whether a sum is ok. -/
def sumOkB (s : Sum) : Bool := if s.on then itvOkB s.lo s.hi else decide (s.lo = 0) && decide (s.hi = 0)
theorem specL7Sum (s : Sum) (w : World) : Calls Tryz.prog 44 #[s.v] w fun e w' => e = .returned (.bool (sumOkB s)) ∧ Grew w w' := by
  obtain ⟨on, lo, hi⟩ := s
  have C1 := Lib.hid (fun w => specL7None ⟨lo, hi⟩ w)
  have C2 := Lib.hid (fun w => specItvOk ⟨lo, hi⟩ w)
  cases on
  all_goals
    go_enter Tryz.func44, Tryz.ntmps44
    go_wp2_with (first | ((with_reducible refine (C1.out _).mono ?_); rintro e w' ⟨rfl, g'⟩; (first | obtain ⟨y, rfl⟩ := ext_cold g' | obtain ⟨y, rfl⟩ := ext_col g' | obtain ⟨y, rfl⟩ := ext_of g'); clear g') | ((with_reducible refine (C2.out _).mono ?_); rintro e w' ⟨rfl, g'⟩; (first | obtain ⟨y, rfl⟩ := ext_cold g' | obtain ⟨y, rfl⟩ := ext_col g' | obtain ⟨y, rfl⟩ := ext_of g'); clear g'))
    go_ret
    refine ⟨rfl, ?_⟩
    exact gr

theorem sumEql (a1 b1 : Bool) (a2 a3 b2 b3 : Int) (w : World) :
    (binOp .eql 100 (.agg #[.bool a1, .int .i64 a2, .int .i64 a3]) (.agg #[.bool b1, .int .i64 b2, .int .i64 b3])).run Tryz.prog w = .ok (.bool (sumEqB ⟨a1, a2, a3⟩ ⟨b1, b2, b3⟩)) w := by
  unfold sumEqB
  cases a1 <;> cases b1
  all_goals
    by_cases h2 : a2 = b2
    · by_cases h3 : a3 = b3 <;> simp [go_sem, *]
    · simp [go_sem, *]
attribute [local go_sem ↓] sumEql

set_option maxHeartbeats 1000000 in
theorem implSumOk (s : Sum) (w : World) : Calls Tryz.prog 56 #[s.v] w fun e w' => e = .returned (.bool (sumOkB s)) ∧ Grew w w' := by
  obtain ⟨on, lo, hi⟩ := s
  cases on
  · have HV : Hid (sumOkB ⟨false, lo, hi⟩ = sumEqB ⟨false, lo, hi⟩ ⟨false, 0, 0⟩) := Lib.hid (by simp [sumOkB, sumEqB, Bool.decide_and])
    rw [HV.out]
    go_enter Tryz.func56, Tryz.ntmps56
    go_wp2
    all_goals
      go_ret
      refine ⟨rfl, ?_⟩
      exact gr
  · have C := fun w => itvOk lo hi w
    have HZ : Hid (sumEqB ⟨true, lo, hi⟩ ⟨false, 0, 0⟩ = false) := Lib.hid (by simp [sumEqB])
    have HV : Hid (sumOkB ⟨true, lo, hi⟩ = itvOkB lo hi) := Lib.hid rfl
    rw [HV.out]
    cases hB : itvOkB lo hi
    all_goals
      rw [hB] at C
      have HC := Lib.hid C
      clear C hB
      have hz := HZ.out
      go_enter Tryz.func56, Tryz.ntmps56
      go_wp2_with ((with_reducible refine (HC.out _).mono ?_); rintro e w' ⟨rfl, g'⟩; (first | obtain ⟨y, rfl⟩ := ext_cold g' | obtain ⟨y, rfl⟩ := ext_col g' | obtain ⟨y, rfl⟩ := ext_of g'); clear g')
      go_ret
      refine ⟨rfl, ?_⟩
      exact gr

end Go.Proofs.YtdddhnepanjmfaaGreat
/- Bounds searched for one that is not ok, as readState does. No condition. -/
namespace Go.Proofs.YtdddhnepanjmfaaGreat
open Go.RowKit
set_option linter.unusedVariables false
attribute [local go_sem] ext_cell ext_frozen ext_lt ext_le ext_le1 lt_s2 lt_s3 lt_s4 lt_s5 lt_s6 ext_lt1 ext_lt2 ext_lt3

def itvB (x : Itv) : Bool := itvOkB x.lo x.hi
theorem itvF1 (x : Itv) (w : World) : Calls Tryz.prog 99 #[x.v] w fun e w' => e = .returned (.bool (!itvB x)) ∧ Grew w w' := by
  obtain ⟨lo, hi⟩ := x
  have C := fun w => itvOk lo hi w
  show Calls _ _ _ _ fun e w' => e = .returned (.bool (!itvOkB lo hi)) ∧ Grew w w'
  generalize itvOkB lo hi = B at *
  have HC := Lib.hid C; clear C
  go_enter Tryz.func99, Tryz.ntmps99
  go_wp2_with ((with_reducible refine (HC.out _).mono ?_); rintro e w' ⟨rfl, g'⟩; (first | obtain ⟨y, rfl⟩ := ext_cold g' | obtain ⟨y, rfl⟩ := ext_col g' | obtain ⟨y, rfl⟩ := ext_of g'); clear g')
  go_ret
  refine ⟨rfl, ?_⟩
  exact gr

set_option maxHeartbeats 1000000 in
theorem indexFuncItv (a : Option Addr) (n cap : Nat) (xs : List Itv) (w : World) (hr : RdL EItv 2 w a n xs) (hn : n ≤ 9223372036854775807) :
    Calls Tryz.prog 127 #[.slice a n cap, .func (.func 99) #[] #[]] w (RetIdx (fun x => !itvB x) xs w) := by
  have HL := Lib.hid hr.len
  have HR := Lib.hid hr; clear hr
  go_enter Tryz.func127, Tryz.ntmps127
  go_wp2
  go_loopw [8] (fun i wr => ∃ k : Nat, k ≤ n ∧ i = .int .i64 k ∧ (∃ x, wr = ext w x) ∧ ∀ x, x ∈ xs.take k → itvB x = true) (fun i _ => n - (intOf i).toNat)
  case atStart => exact ⟨0, Nat.zero_le _, rfl, ext_of (Below.refl _ _), by simp⟩
  case round =>
    obtain ⟨k, hk, rfl, ⟨x, rfl⟩, hall⟩ := hrel
    have HA := Lib.hid hall; clear hall
    by_cases hlt : k < n
    · obtain ⟨b, off, lo, hi, rfl, hx, c0, c1, hb⟩ := rdItv_at (HR.out.grew staysItv (ext_grew w x)) hlt
      have HX := Lib.hid hx; clear hx
      have C := fun w => itvF1 ⟨lo, hi⟩ w
      cases hq : itvB ⟨lo, hi⟩
      · rw [hq] at C
        have HC := Lib.hid C; clear C
        have HQ := Lib.hid hq; clear hq
        go_wp2_with ((with_reducible refine (HC.out _).mono ?_); rintro e w' ⟨rfl, g'⟩; (first | obtain ⟨y, rfl⟩ := ext_cold g' | obtain ⟨y, rfl⟩ := ext_col g' | obtain ⟨y, rfl⟩ := ext_of g'); clear g')
        go_ret
        refine ⟨k, rfl, ?_, gr⟩
        rw [decide_eq_true (by omega), eq_comm, List.any_eq_true]
        exact ⟨_, List.mem_of_getElem? HX.out, by simp [HQ.out]⟩
      · rw [hq] at C
        have HC := Lib.hid C; clear C
        have HQ := Lib.hid hq; clear hq
        go_wp2_with ((with_reducible refine (HC.out _).mono ?_); rintro e w' ⟨rfl, g'⟩; (first | obtain ⟨y, rfl⟩ := ext_cold g' | obtain ⟨y, rfl⟩ := ext_col g' | obtain ⟨y, rfl⟩ := ext_of g'); clear g')
        go_roundw
        case rel =>
          refine ⟨k + 1, by omega, by go_num, ext_of (gr), fun z hz => ?_⟩
          rw [take_get HX.out] at hz
          rcases List.mem_append.1 hz with hz | hz
          · exact HA.out z hz
          · obtain rfl := List.mem_singleton.1 hz
            exact HQ.out
        case measure => simp [intOf]; omega
    · go_wp2
      go_ret
      refine ⟨-1, rfl, ?_, gr⟩
      rw [eq_comm]
      show xs.any _ = false
      rw [List.any_eq_false]
      intro z hz
      have := HA.out z (by rw [List.take_of_length_le (by have := HL.out; omega)]; exact hz)
      simp [this]
theorem containsFuncItv (a : Option Addr) (n cap : Nat) (xs : List Itv) (w : World) (hr : RdL EItv 2 w a n xs) (hn : n ≤ 9223372036854775807) :
    Calls Tryz.prog 98 #[.slice a n cap, .func (.func 99) #[] #[]] w fun e w' => e = .returned (.bool (!xs.all itvB)) ∧ Grew w w' := by
  have C := Lib.hid (indexFuncItv a n cap xs w hr hn)
  clear hr
  go_enter Tryz.func98, Tryz.ntmps98
  go_wp2_with fail
  refine C.out.mono ?_
  rintro e w1 ⟨z, rfl, hz, g1⟩
  rw [any_not] at hz
  have HZ := Lib.hid hz; clear hz
  have HG := Lib.hid g1; clear g1
  go_wp2
  go_ret
  exact ⟨by rw [← HZ.out]; rfl, HG.out⟩
end Go.Proofs.YtdddhnepanjmfaaGreat

/- Plain laws of bounds: what a relation leaves of two bounds, by the program's way and by the reference's. No condition. -/
namespace Go.Proofs.YtdddhnepanjmfaaGreat
open Go.RowKit
set_option linter.unusedVariables false
set_option linter.unusedSimpArgs false

theorem itvB_iff {x : Itv} : itvB x = true ↔ -32768 ≤ x.lo ∧ x.hi ≤ 32767 ∧ x.lo ≤ x.hi := by
  simp only [itvB, itvOkB, Bool.and_eq_true, decide_eq_true_eq]
  omega
/-- Bounds without the one number of others, at an end. -/
def woI (a b : Itv) : Itv := if b.lo = b.hi then (if a.lo = b.lo then ⟨a.lo + 1, a.hi⟩ else if a.hi = b.lo then ⟨a.lo, a.hi - 1⟩ else a) else a
def cutI (a : Itv) (lo hi : Int) : Itv := ⟨max a.lo lo, min a.hi hi⟩
def resI (rel : Int) (a b : Itv) : Itv × Itv :=
  if rel = 1 then (cutI a (-32768) (b.hi - 1), cutI b (a.lo + 1) 32767)
  else if rel = 2 then (cutI a (-32768) b.hi, cutI b a.lo 32767)
  else if rel = 3 then (cutI a b.lo b.hi, cutI a b.lo b.hi)
  else (woI a b, woI b a)
/-- What a relation leaves of two bounds. -/
def relI (rel : Int) (a b : Itv) : Option (Itv × Itv) := if itvB (resI rel a b).1 && itvB (resI rel a b).2 then some (resI rel a b) else none
def swapI (o : Option (Itv × Itv)) : Option (Itv × Itv) := o.map fun p => (p.2, p.1)
def notI (rel : Int) (a b : Itv) : Option (Itv × Itv) := if rel = 1 then swapI (relI 2 b a) else if rel = 2 then swapI (relI 1 b a) else if rel = 3 then relI 4 a b else relI 3 a b
def relV (o : Option (Itv × Itv)) : Value := match o with
  | none => .tuple #[(⟨0, 0⟩ : Itv).v, (⟨0, 0⟩ : Itv).v, .bool false]
  | some p => .tuple #[p.1.v, p.2.v, .bool true]
def optV (o : Option Itv) : Value := match o with
  | none => .tuple #[(⟨0, 0⟩ : Itv).v, .bool false]
  | some x => .tuple #[x.v, .bool true]
/-- The reference's steps. -/
def bothI (x y : Itv) : Option (Itv × Itv) := if x.hi < x.lo ∨ y.hi < y.lo then none else some (x, y)
def endI (a : Itv) (n : Int) : Option Itv := if a.lo = n ∧ a.hi = n then none else some ⟨if a.lo = n then n + 1 else a.lo, if a.hi = n then n - 1 else a.hi⟩
def otherI (a b : Itv) : Option (Itv × Itv) :=
  match (if b.lo = b.hi then endI a b.lo else some a) with
  | none => none
  | some x => match (if a.lo = a.hi then endI b a.lo else some b) with
    | none => none
    | some y => some (x, y)
theorem relI_some {rel : Int} {a b x y : Itv} (h : resI rel a b = (x, y)) (hx : itvB x = true) (hy : itvB y = true) : relI rel a b = some (x, y) := by simp [relI, h, hx, hy]
theorem relI_none {rel : Int} {a b x y : Itv} (h : resI rel a b = (x, y)) (hx : ¬ (itvB x = true ∧ itvB y = true)) : relI rel a b = none := by
  simp only [relI, h]
  rw [if_neg]
  simpa using hx
theorem itv_eq {a b c d : Int} (h1 : a = c) (h2 : b = d) : (⟨a, b⟩ : Itv) = ⟨c, d⟩ := by subst h1 h2; rfl
theorem both_law {rel : Int} {a b x y u v : Itv} (h : resI rel a b = (u, v)) (hu : x.lo ≤ x.hi → y.lo ≤ y.hi → u = x ∧ v = y ∧ itvB x = true ∧ itvB y = true) (hn : itvB u = true → itvB v = true → x.lo ≤ x.hi ∧ y.lo ≤ y.hi) : bothI x y = relI rel a b := by
  unfold bothI
  by_cases h1 : x.hi < x.lo ∨ y.hi < y.lo
  · rw [if_pos h1, relI_none h]
    rintro ⟨h2, h3⟩
    have := hn h2 h3
    omega
  · rw [if_neg h1]
    obtain ⟨rfl, rfl, h2, h3⟩ := hu (by omega) (by omega)
    rw [relI_some h h2 h3]
theorem rel1_spec {a b : Itv} (ha : itvB a = true) (hb : itvB b = true) : bothI ⟨a.lo, min a.hi (b.hi - 1)⟩ ⟨max b.lo (a.lo + 1), b.hi⟩ = relI 1 a b := by
  obtain ⟨al, ah⟩ := a
  obtain ⟨bl, bh⟩ := b
  rw [itvB_iff] at ha hb
  simp only at ha hb ⊢
  refine both_law (u := cutI ⟨al, ah⟩ (-32768) (bh - 1)) (v := cutI ⟨bl, bh⟩ (al + 1) 32767) (by simp [resI]) ?_ ?_
  · intro h1 h2
    simp only [cutI, itvB_iff] at *
    refine ⟨itv_eq ?_ ?_, itv_eq ?_ ?_, ?_, ?_⟩ <;> omega
  · intro h1 h2
    simp only [cutI, itvB_iff] at *
    omega
theorem rel2_spec {a b : Itv} (ha : itvB a = true) (hb : itvB b = true) : bothI ⟨a.lo, min a.hi b.hi⟩ ⟨max b.lo a.lo, b.hi⟩ = relI 2 a b := by
  obtain ⟨al, ah⟩ := a
  obtain ⟨bl, bh⟩ := b
  rw [itvB_iff] at ha hb
  simp only at ha hb ⊢
  refine both_law (u := cutI ⟨al, ah⟩ (-32768) bh) (v := cutI ⟨bl, bh⟩ al 32767) (by simp [resI]) ?_ ?_
  · intro h1 h2
    simp only [cutI, itvB_iff] at *
    refine ⟨itv_eq ?_ ?_, itv_eq ?_ ?_, ?_, ?_⟩ <;> omega
  · intro h1 h2
    simp only [cutI, itvB_iff] at *
    omega
theorem rel3_spec {a b : Itv} (ha : itvB a = true) (hb : itvB b = true) : bothI ⟨max a.lo b.lo, min a.hi b.hi⟩ ⟨max a.lo b.lo, min a.hi b.hi⟩ = relI 3 a b := by
  obtain ⟨al, ah⟩ := a
  obtain ⟨bl, bh⟩ := b
  rw [itvB_iff] at ha hb
  simp only at ha hb ⊢
  refine both_law (u := cutI ⟨al, ah⟩ bl bh) (v := cutI ⟨al, ah⟩ bl bh) (by simp [resI]) ?_ ?_
  · intro h1 h2
    simp only [cutI, itvB_iff] at *
    refine ⟨trivial, trivial, ?_, ?_⟩ <;> omega
  · intro h1 h2
    simp only [cutI, itvB_iff] at *
    omega
theorem rel4_spec {a b : Itv} (ha : itvB a = true) (hb : itvB b = true) : otherI a b = relI 4 a b := by
  obtain ⟨al, ah⟩ := a
  obtain ⟨bl, bh⟩ := b
  have e : resI 4 ⟨al, ah⟩ ⟨bl, bh⟩ = (woI ⟨al, ah⟩ ⟨bl, bh⟩, woI ⟨bl, bh⟩ ⟨al, ah⟩) := by simp [resI]
  rw [itvB_iff] at ha hb
  simp only at ha hb
  by_cases h1 : bl = bh
  · subst h1
    by_cases h2 : al = ah
    · subst h2
      by_cases h3 : al = bl
      · subst h3
        rw [relI_none e]
        · simp [otherI, endI]
        · simp only [woI, itvB_iff]
          simp only [if_true]
          omega
      · have h4 : ¬ bl = al := fun h => h3 h.symm
        rw [relI_some (x := ⟨al, al⟩) (y := ⟨bl, bl⟩) (by rw [e]; simp [woI, h3, h4]) (itvB_iff.2 (by simp only; omega)) (itvB_iff.2 (by simp only; omega))]
        simp [otherI, endI, h3, h4]
    · by_cases h3 : al = bl
      · subst h3
        have h4 : ¬ ah = al := by omega
        rw [relI_some (x := ⟨al + 1, ah⟩) (y := ⟨al, al⟩) (by rw [e]; simp [woI, h2]) (itvB_iff.2 (by simp only; omega)) (itvB_iff.2 (by simp only; omega))]
        simp [otherI, endI, h2, h4]
      · by_cases h4 : ah = bl
        · subst h4
          rw [relI_some (x := ⟨al, ah - 1⟩) (y := ⟨ah, ah⟩) (by rw [e]; simp [woI, h2]) (itvB_iff.2 (by simp only; omega)) (itvB_iff.2 (by simp only; omega))]
          simp [otherI, endI, h2]
        · rw [relI_some (x := ⟨al, ah⟩) (y := ⟨bl, bl⟩) (by rw [e]; simp [woI, h2, h3, h4]) (itvB_iff.2 (by simp only; omega)) (itvB_iff.2 (by simp only; omega))]
          simp [otherI, endI, h2, h3, h4]
  · by_cases h2 : al = ah
    · subst h2
      by_cases h3 : bl = al
      · subst h3
        have h4 : ¬ bh = bl := by omega
        rw [relI_some (x := ⟨bl, bl⟩) (y := ⟨bl + 1, bh⟩) (by rw [e]; simp [woI, h1]) (itvB_iff.2 (by simp only; omega)) (itvB_iff.2 (by simp only; omega))]
        simp [otherI, endI, h1, h4]
      · by_cases h4 : bh = al
        · subst h4
          rw [relI_some (x := ⟨bh, bh⟩) (y := ⟨bl, bh - 1⟩) (by rw [e]; simp [woI, h1]) (itvB_iff.2 (by simp only; omega)) (itvB_iff.2 (by simp only; omega))]
          simp [otherI, endI, h1]
        · rw [relI_some (x := ⟨al, al⟩) (y := ⟨bl, bh⟩) (by rw [e]; simp [woI, h1, h3, h4]) (itvB_iff.2 (by simp only; omega)) (itvB_iff.2 (by simp only; omega))]
          simp [otherI, endI, h1, h3, h4]
    · rw [relI_some (x := ⟨al, ah⟩) (y := ⟨bl, bh⟩) (by rw [e]; simp [woI, h1, h2]) (itvB_iff.2 (by simp only; omega)) (itvB_iff.2 (by simp only; omega))]
      simp [otherI, h1, h2]
end Go.Proofs.YtdddhnepanjmfaaGreat
