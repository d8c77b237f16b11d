/- Lemmas and walks of this proof, some texts one behind the other. No condition. -/
import Derived.Test.YtpmfpgbpndobpaaGreatSums
set_option linter.unusedSimpArgs false
set_option linter.unusedVariables false
/- Bounds searched for one that is not ok, as readState does. No condition. -/
namespace Go.Proofs.YtpmfpgbpndobpaaGreat
open Go.RowKit
set_option linter.unusedVariables false
attribute [local go_sem] ext_cell ext_frozen ext_lt ext_le ext_le1 lt_s2 lt_s3 lt_s4 lt_s5 lt_s6 ext_lt1 ext_lt2 ext_lt3

def itvB (x : Itv) : Bool := itvOkB x.lo x.hi
theorem itvF1 (x : Itv) (w : World) : Calls Tryz.prog 91 #[x.v] w fun e w' => e = .returned (.bool (!itvB x)) ∧ Grew w w' := by
  obtain ⟨lo, hi⟩ := x
  have C := fun w => itvOk lo hi w
  show Calls _ _ _ _ fun e w' => e = .returned (.bool (!itvOkB lo hi)) ∧ Grew w w'
  generalize itvOkB lo hi = B at *
  have HC := Lib.hid C; clear C
  go_enter Tryz.func91, Tryz.ntmps91
  go_wp2_with ((with_reducible refine (HC.out _).mono ?_); rintro e w' ⟨rfl, g'⟩; (first | obtain ⟨y, rfl⟩ := ext_cold g' | obtain ⟨y, rfl⟩ := ext_col g' | obtain ⟨y, rfl⟩ := ext_of g'); clear g')
  go_ret
  refine ⟨rfl, ?_⟩
  exact gr

set_option maxHeartbeats 1000000 in
theorem indexFuncItv (a : Option Addr) (n cap : Nat) (xs : List Itv) (w : World) (hr : RdL EItv 2 w a n xs) (hn : n ≤ 9223372036854775807) :
    Calls Tryz.prog 126 #[.slice a n cap, .func (.func 91) #[] #[]] w (RetIdx (fun x => !itvB x) xs w) := by
  have HL := Lib.hid hr.len
  have HR := Lib.hid hr; clear hr
  go_enter Tryz.func126, Tryz.ntmps126
  go_wp2
  go_loopw [8] (fun i wr => ∃ k : Nat, k ≤ n ∧ i = .int .i64 k ∧ (∃ x, wr = ext w x) ∧ ∀ x, x ∈ xs.take k → itvB x = true) (fun i _ => n - (intOf i).toNat)
  case atStart => exact ⟨0, Nat.zero_le _, rfl, ext_of (Below.refl _ _), by simp⟩
  case round =>
    obtain ⟨k, hk, rfl, ⟨x, rfl⟩, hall⟩ := hrel
    have HA := Lib.hid hall; clear hall
    by_cases hlt : k < n
    · obtain ⟨b, off, lo, hi, rfl, hx, c0, c1, hb⟩ := rdItv_at (HR.out.grew staysItv (ext_grew w x)) hlt
      have HX := Lib.hid hx; clear hx
      have C := fun w => itvF1 ⟨lo, hi⟩ w
      cases hq : itvB ⟨lo, hi⟩
      · rw [hq] at C
        have HC := Lib.hid C; clear C
        have HQ := Lib.hid hq; clear hq
        go_wp2_with ((with_reducible refine (HC.out _).mono ?_); rintro e w' ⟨rfl, g'⟩; (first | obtain ⟨y, rfl⟩ := ext_cold g' | obtain ⟨y, rfl⟩ := ext_col g' | obtain ⟨y, rfl⟩ := ext_of g'); clear g')
        go_ret
        refine ⟨k, rfl, ?_, gr⟩
        rw [decide_eq_true (by omega), eq_comm, List.any_eq_true]
        exact ⟨_, List.mem_of_getElem? HX.out, by simp [HQ.out]⟩
      · rw [hq] at C
        have HC := Lib.hid C; clear C
        have HQ := Lib.hid hq; clear hq
        go_wp2_with ((with_reducible refine (HC.out _).mono ?_); rintro e w' ⟨rfl, g'⟩; (first | obtain ⟨y, rfl⟩ := ext_cold g' | obtain ⟨y, rfl⟩ := ext_col g' | obtain ⟨y, rfl⟩ := ext_of g'); clear g')
        go_roundw
        case rel =>
          refine ⟨k + 1, by omega, by go_num, ext_of (gr), fun z hz => ?_⟩
          rw [take_get HX.out] at hz
          rcases List.mem_append.1 hz with hz | hz
          · exact HA.out z hz
          · obtain rfl := List.mem_singleton.1 hz
            exact HQ.out
        case measure => simp [intOf]; omega
    · go_wp2
      go_ret
      refine ⟨-1, rfl, ?_, gr⟩
      rw [eq_comm]
      show xs.any _ = false
      rw [List.any_eq_false]
      intro z hz
      have := HA.out z (by rw [List.take_of_length_le (by have := HL.out; omega)]; exact hz)
      simp [this]
theorem containsFuncItv (a : Option Addr) (n cap : Nat) (xs : List Itv) (w : World) (hr : RdL EItv 2 w a n xs) (hn : n ≤ 9223372036854775807) :
    Calls Tryz.prog 90 #[.slice a n cap, .func (.func 91) #[] #[]] w fun e w' => e = .returned (.bool (!xs.all itvB)) ∧ Grew w w' := by
  have C := Lib.hid (indexFuncItv a n cap xs w hr hn)
  clear hr
  go_enter Tryz.func90, Tryz.ntmps90
  go_wp2_with fail
  refine C.out.mono ?_
  rintro e w1 ⟨z, rfl, hz, g1⟩
  rw [any_not] at hz
  have HZ := Lib.hid hz; clear hz
  have HG := Lib.hid g1; clear g1
  go_wp2
  go_ret
  exact ⟨by rw [← HZ.out]; rfl, HG.out⟩
end Go.Proofs.YtpmfpgbpndobpaaGreat

/- Plain laws of bounds: what a relation leaves of two bounds, by the program's way and by the reference's. No condition. -/
namespace Go.Proofs.YtpmfpgbpndobpaaGreat
open Go.RowKit
set_option linter.unusedVariables false
set_option linter.unusedSimpArgs false

theorem itvB_iff {x : Itv} : itvB x = true ↔ -32768 ≤ x.lo ∧ x.hi ≤ 32767 ∧ x.lo ≤ x.hi := by
  simp only [itvB, itvOkB, Bool.and_eq_true, decide_eq_true_eq]
  omega
/-- Bounds without the one number of others, at an end. -/
def woI (a b : Itv) : Itv := if b.lo = b.hi then (if a.lo = b.lo then ⟨a.lo + 1, a.hi⟩ else if a.hi = b.lo then ⟨a.lo, a.hi - 1⟩ else a) else a
def cutI (a : Itv) (lo hi : Int) : Itv := ⟨max a.lo lo, min a.hi hi⟩
def resI (rel : Int) (a b : Itv) : Itv × Itv :=
  if rel = 1 then (cutI a (-32768) (b.hi - 1), cutI b (a.lo + 1) 32767)
  else if rel = 2 then (cutI a (-32768) b.hi, cutI b a.lo 32767)
  else if rel = 3 then (cutI a b.lo b.hi, cutI a b.lo b.hi)
  else (woI a b, woI b a)
/-- What a relation leaves of two bounds. -/
def relI (rel : Int) (a b : Itv) : Option (Itv × Itv) := if itvB (resI rel a b).1 && itvB (resI rel a b).2 then some (resI rel a b) else none
def swapI (o : Option (Itv × Itv)) : Option (Itv × Itv) := o.map fun p => (p.2, p.1)
def notI (rel : Int) (a b : Itv) : Option (Itv × Itv) := if rel = 1 then swapI (relI 2 b a) else if rel = 2 then swapI (relI 1 b a) else if rel = 3 then relI 4 a b else relI 3 a b
def relV (o : Option (Itv × Itv)) : Value := match o with
  | none => .tuple #[(⟨0, 0⟩ : Itv).v, (⟨0, 0⟩ : Itv).v, .bool false]
  | some p => .tuple #[p.1.v, p.2.v, .bool true]
def optV (o : Option Itv) : Value := match o with
  | none => .tuple #[(⟨0, 0⟩ : Itv).v, .bool false]
  | some x => .tuple #[x.v, .bool true]
/-- What is in both. -/
def meetI (a b : Itv) : Option Itv := if itvB (cutI a b.lo b.hi) then some (cutI a b.lo b.hi) else none
/-- The reference's steps. -/
def bothI (x y : Itv) : Option (Itv × Itv) := if x.hi < x.lo ∨ y.hi < y.lo then none else some (x, y)
def endI (a : Itv) (n : Int) : Option Itv := if a.lo = n ∧ a.hi = n then none else some ⟨if a.lo = n then n + 1 else a.lo, if a.hi = n then n - 1 else a.hi⟩
def otherI (a b : Itv) : Option (Itv × Itv) :=
  match (if b.lo = b.hi then endI a b.lo else some a) with
  | none => none
  | some x => match (if a.lo = a.hi then endI b a.lo else some b) with
    | none => none
    | some y => some (x, y)
theorem relI_some {rel : Int} {a b x y : Itv} (h : resI rel a b = (x, y)) (hx : itvB x = true) (hy : itvB y = true) : relI rel a b = some (x, y) := by simp [relI, h, hx, hy]
theorem relI_none {rel : Int} {a b x y : Itv} (h : resI rel a b = (x, y)) (hx : ¬ (itvB x = true ∧ itvB y = true)) : relI rel a b = none := by
  simp only [relI, h]
  rw [if_neg]
  simpa using hx
theorem itv_eq {a b c d : Int} (h1 : a = c) (h2 : b = d) : (⟨a, b⟩ : Itv) = ⟨c, d⟩ := by subst h1 h2; rfl
theorem both_law {rel : Int} {a b x y u v : Itv} (h : resI rel a b = (u, v)) (hu : x.lo ≤ x.hi → y.lo ≤ y.hi → u = x ∧ v = y ∧ itvB x = true ∧ itvB y = true) (hn : itvB u = true → itvB v = true → x.lo ≤ x.hi ∧ y.lo ≤ y.hi) : bothI x y = relI rel a b := by
  unfold bothI
  by_cases h1 : x.hi < x.lo ∨ y.hi < y.lo
  · rw [if_pos h1, relI_none h]
    rintro ⟨h2, h3⟩
    have := hn h2 h3
    omega
  · rw [if_neg h1]
    obtain ⟨rfl, rfl, h2, h3⟩ := hu (by omega) (by omega)
    rw [relI_some h h2 h3]
theorem rel1_spec {a b : Itv} (ha : itvB a = true) (hb : itvB b = true) : bothI ⟨a.lo, min a.hi (b.hi - 1)⟩ ⟨max b.lo (a.lo + 1), b.hi⟩ = relI 1 a b := by
  obtain ⟨al, ah⟩ := a
  obtain ⟨bl, bh⟩ := b
  rw [itvB_iff] at ha hb
  simp only at ha hb ⊢
  refine both_law (u := cutI ⟨al, ah⟩ (-32768) (bh - 1)) (v := cutI ⟨bl, bh⟩ (al + 1) 32767) (by simp [resI]) ?_ ?_
  · intro h1 h2
    simp only [cutI, itvB_iff] at *
    refine ⟨itv_eq ?_ ?_, itv_eq ?_ ?_, ?_, ?_⟩ <;> omega
  · intro h1 h2
    simp only [cutI, itvB_iff] at *
    omega
theorem rel2_spec {a b : Itv} (ha : itvB a = true) (hb : itvB b = true) : bothI ⟨a.lo, min a.hi b.hi⟩ ⟨max b.lo a.lo, b.hi⟩ = relI 2 a b := by
  obtain ⟨al, ah⟩ := a
  obtain ⟨bl, bh⟩ := b
  rw [itvB_iff] at ha hb
  simp only at ha hb ⊢
  refine both_law (u := cutI ⟨al, ah⟩ (-32768) bh) (v := cutI ⟨bl, bh⟩ al 32767) (by simp [resI]) ?_ ?_
  · intro h1 h2
    simp only [cutI, itvB_iff] at *
    refine ⟨itv_eq ?_ ?_, itv_eq ?_ ?_, ?_, ?_⟩ <;> omega
  · intro h1 h2
    simp only [cutI, itvB_iff] at *
    omega
theorem rel3_spec {a b : Itv} (ha : itvB a = true) (hb : itvB b = true) : bothI ⟨max a.lo b.lo, min a.hi b.hi⟩ ⟨max a.lo b.lo, min a.hi b.hi⟩ = relI 3 a b := by
  obtain ⟨al, ah⟩ := a
  obtain ⟨bl, bh⟩ := b
  rw [itvB_iff] at ha hb
  simp only at ha hb ⊢
  refine both_law (u := cutI ⟨al, ah⟩ bl bh) (v := cutI ⟨al, ah⟩ bl bh) (by simp [resI]) ?_ ?_
  · intro h1 h2
    simp only [cutI, itvB_iff] at *
    refine ⟨trivial, trivial, ?_, ?_⟩ <;> omega
  · intro h1 h2
    simp only [cutI, itvB_iff] at *
    omega
theorem rel4_spec {a b : Itv} (ha : itvB a = true) (hb : itvB b = true) : otherI a b = relI 4 a b := by
  obtain ⟨al, ah⟩ := a
  obtain ⟨bl, bh⟩ := b
  have e : resI 4 ⟨al, ah⟩ ⟨bl, bh⟩ = (woI ⟨al, ah⟩ ⟨bl, bh⟩, woI ⟨bl, bh⟩ ⟨al, ah⟩) := by simp [resI]
  rw [itvB_iff] at ha hb
  simp only at ha hb
  by_cases h1 : bl = bh
  · subst h1
    by_cases h2 : al = ah
    · subst h2
      by_cases h3 : al = bl
      · subst h3
        rw [relI_none e]
        · simp [otherI, endI]
        · simp only [woI, itvB_iff]
          simp only [if_true]
          omega
      · have h4 : ¬ bl = al := fun h => h3 h.symm
        rw [relI_some (x := ⟨al, al⟩) (y := ⟨bl, bl⟩) (by rw [e]; simp [woI, h3, h4]) (itvB_iff.2 (by simp only; omega)) (itvB_iff.2 (by simp only; omega))]
        simp [otherI, endI, h3, h4]
    · by_cases h3 : al = bl
      · subst h3
        have h4 : ¬ ah = al := by omega
        rw [relI_some (x := ⟨al + 1, ah⟩) (y := ⟨al, al⟩) (by rw [e]; simp [woI, h2]) (itvB_iff.2 (by simp only; omega)) (itvB_iff.2 (by simp only; omega))]
        simp [otherI, endI, h2, h4]
      · by_cases h4 : ah = bl
        · subst h4
          rw [relI_some (x := ⟨al, ah - 1⟩) (y := ⟨ah, ah⟩) (by rw [e]; simp [woI, h2]) (itvB_iff.2 (by simp only; omega)) (itvB_iff.2 (by simp only; omega))]
          simp [otherI, endI, h2]
        · rw [relI_some (x := ⟨al, ah⟩) (y := ⟨bl, bl⟩) (by rw [e]; simp [woI, h2, h3, h4]) (itvB_iff.2 (by simp only; omega)) (itvB_iff.2 (by simp only; omega))]
          simp [otherI, endI, h2, h3, h4]
  · by_cases h2 : al = ah
    · subst h2
      by_cases h3 : bl = al
      · subst h3
        have h4 : ¬ bh = bl := by omega
        rw [relI_some (x := ⟨bl, bl⟩) (y := ⟨bl + 1, bh⟩) (by rw [e]; simp [woI, h1]) (itvB_iff.2 (by simp only; omega)) (itvB_iff.2 (by simp only; omega))]
        simp [otherI, endI, h1, h4]
      · by_cases h4 : bh = al
        · subst h4
          rw [relI_some (x := ⟨bh, bh⟩) (y := ⟨bl, bh - 1⟩) (by rw [e]; simp [woI, h1]) (itvB_iff.2 (by simp only; omega)) (itvB_iff.2 (by simp only; omega))]
          simp [otherI, endI, h1]
        · rw [relI_some (x := ⟨al, al⟩) (y := ⟨bl, bh⟩) (by rw [e]; simp [woI, h1, h3, h4]) (itvB_iff.2 (by simp only; omega)) (itvB_iff.2 (by simp only; omega))]
          simp [otherI, endI, h1, h3, h4]
    · rw [relI_some (x := ⟨al, ah⟩) (y := ⟨bl, bh⟩) (by rw [e]; simp [woI, h1, h2]) (itvB_iff.2 (by simp only; omega)) (itvB_iff.2 (by simp only; omega))]
      simp [otherI, h1, h2]
theorem relI_ok {rel : Int} {a b x y : Itv} (h : relI rel a b = some (x, y)) : itvB x = true ∧ itvB y = true := by
  unfold relI at h
  split at h
  · rename_i h1
    simp only [Bool.and_eq_true] at h1
    have := Option.some.inj h
    rw [this] at h1
    exact h1
  · cases h
theorem notI_ok {rel : Int} {a b x y : Itv} (h : notI rel a b = some (x, y)) : itvB x = true ∧ itvB y = true := by
  unfold notI at h
  split at h
  · simp only [swapI, Option.map_eq_some_iff] at h
    obtain ⟨⟨u, v⟩, h1, h2⟩ := h
    cases h2
    exact (relI_ok h1).symm
  · split at h
    · simp only [swapI, Option.map_eq_some_iff] at h
      obtain ⟨⟨u, v⟩, h1, h2⟩ := h
      cases h2
      exact (relI_ok h1).symm
    · split at h <;> exact relI_ok h
theorem meetI_ok {a b x : Itv} (h : meetI a b = some x) : itvB x = true := by
  unfold meetI at h
  split at h
  · rename_i h1
    cases h
    exact h1
  · cases h
end Go.Proofs.YtpmfpgbpndobpaaGreat
