/- Lemmas and walks of this proof, some texts one behind the other. No condition. -/
import Derived.Test.YtpmfpgbpndobpaaGreatHas4
import Derived.Test.YtpmfpgbpndobpaaGreatDrAI
set_option linter.unusedSimpArgs false
set_option linter.unusedVariables false
/- Plain laws of bounds: what a relation leaves of two bounds, by the program's way and by the reference's. No condition. -/
namespace Go.Proofs.YtpmfpgbpndobpaaGreat
open Go.RowKit
set_option linter.unusedVariables false
set_option linter.unusedSimpArgs false

theorem itvB_iff {x : Itv} : itvB x = true ↔ -32768 ≤ x.lo ∧ x.hi ≤ 32767 ∧ x.lo ≤ x.hi := by
  simp only [itvB, itvOkB, Bool.and_eq_true, decide_eq_true_eq]
  omega
/-- Bounds without the one number of others, at an end. -/
def woI (a b : Itv) : Itv := if b.lo = b.hi then (if a.lo = b.lo then ⟨a.lo + 1, a.hi⟩ else if a.hi = b.lo then ⟨a.lo, a.hi - 1⟩ else a) else a
def cutI (a : Itv) (lo hi : Int) : Itv := ⟨max a.lo lo, min a.hi hi⟩
def resI (rel : Int) (a b : Itv) : Itv × Itv :=
  if rel = 1 then (cutI a (-32768) (b.hi - 1), cutI b (a.lo + 1) 32767)
  else if rel = 2 then (cutI a (-32768) b.hi, cutI b a.lo 32767)
  else if rel = 3 then (cutI a b.lo b.hi, cutI a b.lo b.hi)
  else (woI a b, woI b a)
/-- What a relation leaves of two bounds. -/
def relI (rel : Int) (a b : Itv) : Option (Itv × Itv) := if itvB (resI rel a b).1 && itvB (resI rel a b).2 then some (resI rel a b) else none
def swapI (o : Option (Itv × Itv)) : Option (Itv × Itv) := o.map fun p => (p.2, p.1)
def notI (rel : Int) (a b : Itv) : Option (Itv × Itv) := if rel = 1 then swapI (relI 2 b a) else if rel = 2 then swapI (relI 1 b a) else if rel = 3 then relI 4 a b else relI 3 a b
def relV (o : Option (Itv × Itv)) : Value := match o with
  | none => .tuple #[(⟨0, 0⟩ : Itv).v, (⟨0, 0⟩ : Itv).v, .bool false]
  | some p => .tuple #[p.1.v, p.2.v, .bool true]
def optV (o : Option Itv) : Value := match o with
  | none => .tuple #[(⟨0, 0⟩ : Itv).v, .bool false]
  | some x => .tuple #[x.v, .bool true]
/-- What is in both. -/
def meetI (a b : Itv) : Option Itv := if itvB (cutI a b.lo b.hi) then some (cutI a b.lo b.hi) else none
theorem relI_some {rel : Int} {a b x y : Itv} (h : resI rel a b = (x, y)) (hx : itvB x = true) (hy : itvB y = true) : relI rel a b = some (x, y) := by simp [relI, h, hx, hy]
theorem relI_ok {rel : Int} {a b x y : Itv} (h : relI rel a b = some (x, y)) : itvB x = true ∧ itvB y = true := by
  unfold relI at h
  split at h
  · rename_i h1
    simp only [Bool.and_eq_true] at h1
    have := Option.some.inj h
    rw [this] at h1
    exact h1
  · cases h
theorem notI_ok {rel : Int} {a b x y : Itv} (h : notI rel a b = some (x, y)) : itvB x = true ∧ itvB y = true := by
  unfold notI at h
  split at h
  · simp only [swapI, Option.map_eq_some_iff] at h
    obtain ⟨⟨u, v⟩, h1, h2⟩ := h
    cases h2
    exact (relI_ok h1).symm
  · split at h
    · simp only [swapI, Option.map_eq_some_iff] at h
      obtain ⟨⟨u, v⟩, h1, h2⟩ := h
      cases h2
      exact (relI_ok h1).symm
    · split at h <;> exact relI_ok h
theorem meetI_ok {a b x : Itv} (h : meetI a b = some x) : itvB x = true := by
  unfold meetI at h
  split at h
  · rename_i h1
    cases h
    exact h1
  · cases h
end Go.Proofs.YtpmfpgbpndobpaaGreat

/- Plain laws of bounds: what can be reckoned of two bounds, by the program's way and by the reference's. No condition. -/
namespace Go.Proofs.YtpmfpgbpndobpaaGreat
open Go.RowKit
set_option linter.unusedVariables false
set_option linter.unusedSimpArgs false

def w16 (n : Int) : Int := if 32768 ≤ n % 65536 then n % 65536 - 65536 else n % 65536
theorem w16_wrap (n : Int) : IntKind.i16.wrap n = w16 n := by
  simp [IntKind.wrap, IntKind.bits, IntKind.signed, w16]
theorem w16_le (n : Int) : -32768 ≤ w16 n ∧ w16 n ≤ 32767 := by
  unfold w16
  split <;> omega
/-- The bounds of what is wrapped. -/
def foldI (lo hi : Int) : Itv := if lo - w16 lo = hi - w16 hi then ⟨w16 lo, w16 hi⟩ else ⟨-32768, 32767⟩
theorem fold_ok {lo hi : Int} (h : lo ≤ hi) : itvB (foldI lo hi) = true := by
  have h1 := w16_le lo
  have h2 := w16_le hi
  unfold foldI
  split <;> rw [itvB_iff] <;> simp only <;> omega

/-- The least and the greatest of some. -/
def minL : List Int → Int
  | [] => 0
  | x :: xs => xs.foldl min x
def maxL : List Int → Int
  | [] => 0
  | x :: xs => xs.foldl max x
def IsMin (l : List Int) (m : Int) : Prop := m ∈ l ∧ ∀ x ∈ l, m ≤ x
def IsMax (l : List Int) (m : Int) : Prop := m ∈ l ∧ ∀ x ∈ l, x ≤ m
theorem foldl_min : ∀ (xs : List Int) (x : Int), IsMin (x :: xs) (xs.foldl min x)
  | [], x => ⟨by simp, by simp⟩
  | y :: ys, x => by
    obtain ⟨h1, h2⟩ := foldl_min ys (min x y)
    refine ⟨?_, fun z hz => ?_⟩
    · simp only [List.foldl_cons, List.mem_cons] at *
      rcases h1 with h1 | h1
      · rw [h1]
        omega
      · exact .inr (.inr h1)
    · simp only [List.foldl_cons, List.mem_cons] at *
      have h3 := h2 (min x y) (.inl rfl)
      rcases hz with rfl | rfl | hz
      · omega
      · omega
      · exact h2 z (.inr hz)
theorem foldl_max : ∀ (xs : List Int) (x : Int), IsMax (x :: xs) (xs.foldl max x)
  | [], x => ⟨by simp, by simp⟩
  | y :: ys, x => by
    obtain ⟨h1, h2⟩ := foldl_max ys (max x y)
    refine ⟨?_, fun z hz => ?_⟩
    · simp only [List.foldl_cons, List.mem_cons] at *
      rcases h1 with h1 | h1
      · rw [h1]
        omega
      · exact .inr (.inr h1)
    · simp only [List.foldl_cons, List.mem_cons] at *
      have h3 := h2 (max x y) (.inl rfl)
      rcases hz with rfl | rfl | hz
      · omega
      · omega
      · exact h2 z (.inr hz)
theorem minL_is {l : List Int} (h : l ≠ []) : IsMin l (minL l) := by
  cases l with
  | nil => exact absurd rfl h
  | cons x xs => exact foldl_min xs x
theorem maxL_is {l : List Int} (h : l ≠ []) : IsMax l (maxL l) := by
  cases l with
  | nil => exact absurd rfl h
  | cons x xs => exact foldl_max xs x
/-- What the program reckons at the corners. -/
def opI (op n m : Int) : Int := if op = 1 then n + m else if op = 2 then n - m else if op = 3 then n * m else n.tdiv m
def secI (op : Int) (b : Itv) : List Int := if op = 4 then [b.lo, b.hi, -1, 1].filter (fun n => !decide (n = 0) && inB b.lo b.hi n) else [b.lo, b.hi]
def cornI (op : Int) (a b : Itv) : List (Int × Int) := (secI op b).flatMap fun n => [(a.lo, n), (a.hi, n)]
def ressI (op : Int) (a b : Itv) : List Int := if op = 2 then [a.lo - b.hi, a.hi - b.lo] else (cornI op a b).map fun c => opI op c.1 c.2
def doI (op : Int) (a b : Itv) : Option Itv := if ressI op a b = [] then none else some (foldI (minL (ressI op a b)) (maxL (ressI op a b)))
theorem mem_ress {op : Int} {a b : Itv} (h2 : op ≠ 2) (x : Int) : x ∈ ressI op a b ↔ ∃ n, n ∈ secI op b ∧ (x = opI op a.lo n ∨ x = opI op a.hi n) := by
  simp only [ressI, h2, if_false, cornI, List.mem_map, List.mem_flatMap, List.mem_cons, List.not_mem_nil, or_false]
  constructor
  · rintro ⟨c, ⟨n, hn, rfl | rfl⟩, rfl⟩
    · exact ⟨n, hn, .inl rfl⟩
    · exact ⟨n, hn, .inr rfl⟩
  · rintro ⟨n, hn, rfl | rfl⟩
    · exact ⟨_, ⟨n, hn, .inl rfl⟩, rfl⟩
    · exact ⟨_, ⟨n, hn, .inr rfl⟩, rfl⟩
theorem sec4 (bl bh n : Int) : n ∈ secI 4 ⟨bl, bh⟩ ↔ n ≠ 0 ∧ bl ≤ n ∧ n ≤ bh ∧ (n = bl ∨ n = bh ∨ n = -1 ∨ n = 1) := by
  simp only [secI, if_true, List.mem_filter, List.mem_cons, List.not_mem_nil, or_false, inB, Bool.and_eq_true, decide_eq_true_eq, Bool.not_eq_true', decide_eq_false_iff_not]
  constructor
  · rintro ⟨h1, h2, h3, h4⟩
    exact ⟨h2, h3, h4, h1⟩
  · rintro ⟨h1, h2, h3, h4⟩
    exact ⟨h4, h1, h2, h3⟩
theorem mul_le {a b : Int} (h1 : -32768 ≤ a) (h2 : a ≤ 32767) (h3 : -32768 ≤ b) (h4 : b ≤ 32767) : -2147483648 ≤ a * b ∧ a * b ≤ 2147483648 := by
  have e : (a * b).natAbs ≤ 32768 * 32768 := by
    rw [Int.natAbs_mul]
    exact Nat.mul_le_mul (by omega) (by omega)
  omega
theorem tdiv_le {a b : Int} (h1 : -32768 ≤ a) (h2 : a ≤ 32767) : -2147483648 ≤ a.tdiv b ∧ a.tdiv b ≤ 2147483648 := by
  have e : (a.tdiv b).natAbs ≤ 32768 := by
    rw [Int.natAbs_tdiv]
    exact Nat.le_trans (Nat.div_le_self _ _) (by omega)
  omega
theorem opI_le {op a b : Int} (h1 : -32768 ≤ a) (h2 : a ≤ 32767) (h3 : -32768 ≤ b) (h4 : b ≤ 32767) : -2147483648 ≤ opI op a b ∧ opI op a b ≤ 2147483648 := by
  have h5 := mul_le h1 h2 h3 h4
  have h6 := tdiv_le (b := b) h1 h2
  unfold opI
  split
  · omega
  · split
    · omega
    · split
      · exact h5
      · exact h6
theorem sec_le {op : Int} {b : Itv} (hb : itvB b = true) {n : Int} (h : n ∈ secI op b) : -32768 ≤ n ∧ n ≤ 32767 ∧ (op = 4 → n ≠ 0) := by
  obtain ⟨bl, bh⟩ := b
  rw [itvB_iff] at hb
  simp only at hb
  by_cases e : op = 4
  · subst e
    rw [sec4] at h
    omega
  · simp only [secI, e, if_false, List.mem_cons, List.not_mem_nil, or_false] at h
    omega
theorem ress_le {op : Int} {a b : Itv} (ha : itvB a = true) (hb : itvB b = true) {x : Int} (h : x ∈ ressI op a b) : -2147483648 ≤ x ∧ x ≤ 2147483648 := by
  by_cases e : op = 2
  · subst e
    obtain ⟨al, ah⟩ := a
    obtain ⟨bl, bh⟩ := b
    rw [itvB_iff] at ha hb
    simp only at ha hb
    simp [ressI] at h
    omega
  · rw [mem_ress e] at h
    obtain ⟨n, hn, h⟩ := h
    have h1 := sec_le hb hn
    rw [itvB_iff] at ha
    rcases h with rfl | rfl
    · exact opI_le (by omega) (by omega) h1.1 h1.2.1
    · exact opI_le (by omega) (by omega) h1.1 h1.2.1
theorem doI_ok {op : Int} {a b x : Itv} (h : doI op a b = some x) : itvB x = true := by
  unfold doI at h
  split at h
  · cases h
  · rename_i hne
    have := Option.some.inj h
    rw [← this]
    exact fold_ok ((minL_is hne).2 _ (maxL_is hne).1)
end Go.Proofs.YtpmfpgbpndobpaaGreat

/- One state within another one: the program's side, for states that are ok. No condition. -/
namespace Go.Proofs.YtpmfpgbpndobpaaGreat
open Go.RowKit
set_option linter.unusedVariables false
set_option linter.unusedSimpArgs false
attribute [local go_sem] ext_cell ext_frozen ext_lt ext_le ext_le1 lt_s2 lt_s3 lt_s4 lt_s5 lt_s6 ext_lt1 ext_lt2 ext_lt3

def inI (x y : Itv) : Bool := decide (y.lo ≤ x.lo) && decide (x.hi ≤ y.hi)
theorem implBothOk (a b : Itv) (w : World) (ha : itvB a = true) (hb : itvB b = true) :
    Calls Tryz.prog 130 #[.agg #[.int .i64 a.lo, .int .i64 a.hi], .agg #[.int .i64 b.lo, .int .i64 b.hi]] w fun e w' => e = .returned (.bool true) ∧ Grew w w' := by
  have C := fun w => itvOk a.lo a.hi w
  have D := fun w => itvOk b.lo b.hi w
  rw [itvB] at ha hb
  rw [ha] at C
  rw [hb] at D
  have HC := Lib.hid C
  have HD := Lib.hid D
  clear C D ha hb
  obtain ⟨al, ah⟩ := a
  obtain ⟨bl, bh⟩ := b
  simp only at HC HD ⊢
  go_enter Tryz.func130, Tryz.ntmps130
  go_wp2_with (first | ((with_reducible refine (HC.out _).mono ?_); rintro e w' ⟨rfl, g'⟩; (first | obtain ⟨y, rfl⟩ := ext_cold g' | obtain ⟨y, rfl⟩ := ext_col g' | obtain ⟨y, rfl⟩ := ext_of g'); clear g') | ((with_reducible refine (HD.out _).mono ?_); rintro e w' ⟨rfl, g'⟩; (first | obtain ⟨z, rfl⟩ := ext_cold g' | obtain ⟨z, rfl⟩ := ext_col g' | obtain ⟨z, rfl⟩ := ext_of g'); clear g'))
  go_ret
  refine ⟨by simp, ?_⟩
  exact gr
theorem implItvIn (a b : Itv) (w : World) (ha : itvB a = true) (hb : itvB b = true) :
    Calls Tryz.prog 108 #[.agg #[.int .i64 a.lo, .int .i64 a.hi], .agg #[.int .i64 b.lo, .int .i64 b.hi]] w fun e w' => e = .returned (.bool (inI a b)) ∧ Grew w w' := by
  have HC := Lib.hid (fun W => implBothOk a b W ha hb)
  clear ha hb
  obtain ⟨al, ah⟩ := a
  obtain ⟨bl, bh⟩ := b
  simp only at HC ⊢
  by_cases h1 : bl ≤ al
  · by_cases h2 : ah ≤ bh
    all_goals
      go_enter Tryz.func108, Tryz.ntmps108
      go_wp2_with ((with_reducible refine (HC.out _).mono ?_); rintro e w' ⟨rfl, g'⟩; (first | obtain ⟨y, rfl⟩ := ext_cold g' | obtain ⟨y, rfl⟩ := ext_col g' | obtain ⟨y, rfl⟩ := ext_of g'); clear g')
      go_ret
      refine ⟨by simp [inI, h1, h2], ?_⟩
      exact gr
  · go_enter Tryz.func108, Tryz.ntmps108
    go_wp2_with ((with_reducible refine (HC.out _).mono ?_); rintro e w' ⟨rfl, g'⟩; (first | obtain ⟨y, rfl⟩ := ext_cold g' | obtain ⟨y, rfl⟩ := ext_col g' | obtain ⟨y, rfl⟩ := ext_of g'); clear g')
    go_ret
    refine ⟨by (simp [inI]; omega), ?_⟩
    exact gr
/-- The cells of a state of four. -/
theorem st_cell {w : World} {b : Nat} {xs : List Itv} {lo hi : Int} (h : Blk w b 110 (stC xs lo hi)) (h4 : xs.length = 4) {k : Nat} {x : Itv} (hx : xs[k]? = some x) : w.cell? ⟨b, k * 2, none⟩ = some (.int .i64 x.lo) ∧ w.cell? ⟨b, k * 2 + 1, none⟩ = some (.int .i64 x.hi) := by
  match xs, h4 with
  | [x0, x1, x2, x3], _ =>
    match k, hx with
    | 0, hx => cases hx; exact ⟨h.cell 0, h.cell 1⟩
    | 1, hx => cases hx; exact ⟨h.cell 2, h.cell 3⟩
    | 2, hx => cases hx; exact ⟨h.cell 4, h.cell 5⟩
    | 3, hx => cases hx; exact ⟨h.cell 6, h.cell 7⟩
theorem st_end {w : World} {b : Nat} {xs : List Itv} {lo hi : Int} (h : Blk w b 110 (stC xs lo hi)) (h4 : xs.length = 4) : w.cell? ⟨b, 8, none⟩ = some (.int .i64 lo) ∧ w.cell? ⟨b, 9, none⟩ = some (.int .i64 hi) := by
  match xs, h4 with
  | [x0, x1, x2, x3], _ => exact ⟨h.cell 8, h.cell 9⟩
def inS (xs ys : List Itv) (x y : Itv) : Bool := (xs.zip ys).all (fun p => inI p.1 p.2) && inI x y
set_option maxHeartbeats 4000000 in
theorem implInState (b1 b2 : Nat) (xs ys : List Itv) (lo hi lo' hi' : Int) (w : World) (h1 : Blk w b1 110 (stC xs lo hi)) (h2 : Blk w b2 110 (stC ys lo' hi')) (o1 : stOkB true xs lo hi = true) (o2 : stOkB true ys lo' hi' = true) :
    Calls Tryz.prog 66 #[.pointer (some ⟨b1, 0, none⟩), .pointer (some ⟨b2, 0, none⟩)] w fun e w' => e = .returned (.bool (inS xs ys ⟨lo, hi⟩ ⟨lo', hi'⟩)) ∧ Grew w w' := by
  have HA1 := Lib.hid (itvB_all o1)
  have HA2 := Lib.hid (itvB_all o2)
  have hc1 := (st_four o1).1
  have hc2 := (st_four o2).1
  have HL1 : Hid (xs.length = 4) := Lib.hid (by obtain ⟨_, x0, x1, x2, x3, rfl, _⟩ := st_four o1; rfl)
  have HL2 : Hid (ys.length = 4) := Lib.hid (by obtain ⟨_, x0, x1, x2, x3, rfl, _⟩ := st_four o2; rfl)
  have HE := Lib.hid (fun W => implItvIn ⟨lo, hi⟩ ⟨lo', hi'⟩ W hc1 hc2)
  have HB1 := Lib.hid h1
  have HB2 := Lib.hid h2
  clear o1 o2 hc1 hc2 h1 h2
  go_enter Tryz.func66, Tryz.ntmps66
  go_wp2
  go_loopw [14] (fun i wr => ∃ k : Nat, k ≤ 4 ∧ i = .int .i64 k ∧ Grew w wr ∧ ∀ p, p ∈ (xs.zip ys).take k → inI p.1 p.2 = true) (fun i _ => 4 - (intOf i).toNat)
  case atStart => exact ⟨0, Nat.zero_le _, rfl, Below.refl _ _, by simp⟩
  case round =>
    obtain ⟨k, hk, rfl, hg, hall⟩ := hrel
    have HG := Lib.hid hg
    have HA := Lib.hid hall
    have l1 : b1 < wr.heap.size := (HB1.out.grew hg).lt
    have l2 : b2 < wr.heap.size := (HB2.out.grew hg).lt
    clear hall
    by_cases hlt : k < 4
    · obtain ⟨x, hx⟩ : ∃ x, xs[k]? = some x := ⟨xs[k]'(by rw [HL1.out]; exact hlt), List.getElem?_eq_getElem _⟩
      obtain ⟨y, hy⟩ : ∃ y, ys[k]? = some y := ⟨ys[k]'(by rw [HL2.out]; exact hlt), List.getElem?_eq_getElem _⟩
      obtain ⟨c0, c1⟩ := st_cell (HB1.out.grew hg) HL1.out hx
      obtain ⟨d0, d1⟩ := st_cell (HB2.out.grew hg) HL2.out hy
      have hz : (xs.zip ys)[k]? = some (x, y) := by rw [List.getElem?_zip_eq_some]; exact ⟨hx, hy⟩
      have HZ := Lib.hid hz
      have C := fun W => implItvIn x y W (HA1.out x (List.mem_of_getElem? hx)) (HA2.out y (List.mem_of_getElem? hy))
      obtain ⟨xl, xh⟩ := x
      obtain ⟨yl, yh⟩ := y
      simp only at C c0 c1 d0 d1
      clear hx hy hz hg
      cases hq : inI ⟨xl, xh⟩ ⟨yl, yh⟩
      · rw [hq] at C
        have HCk := Lib.hid C
        have HF : Hid (inS xs ys ⟨lo, hi⟩ ⟨lo', hi'⟩ = false) := Lib.hid (by
          rw [inS, Bool.and_eq_false_iff]
          left
          rw [List.all_eq_false]
          exact ⟨_, List.mem_of_getElem? HZ.out, by simp [hq]⟩)
        clear C hq
        go_wp2_with fail
        first | refine wp_region_ext2 (by kernel_rfl) (by kernel_rfl) ?_ | refine wp_region_ext (by kernel_rfl) (by kernel_rfl) ?_
        repeat (go_big_quiet_step ((first | (with_reducible exact ext_grow (HCk.out _)))))
        refine wpQuiet_nil ?_
        intro _ hw'
        obtain ⟨u, hw''⟩ := hw'
        subst hw''
        have HG2 := Lib.hid (show Grew w (ext wr u) from grew_tr HG.out (gr))
        clear c0 c1 d0 d1 l1 l2
        go_wp2
        go_ret
        rw [HF.out]
        exact ⟨rfl, HG2.out⟩
      · rw [hq] at C
        have HCk := Lib.hid C
        have HQ := Lib.hid hq
        clear C hq
        go_wp2_with fail
        first | refine wp_region_ext2 (by kernel_rfl) (by kernel_rfl) ?_ | refine wp_region_ext (by kernel_rfl) (by kernel_rfl) ?_
        repeat (go_big_quiet_step ((first | (with_reducible exact ext_grow (HCk.out _)))))
        refine wpQuiet_nil ?_
        intro _ hw'
        obtain ⟨u, hw''⟩ := hw'
        subst hw''
        have HG2 := Lib.hid (show Grew w (ext wr u) from grew_tr HG.out (gr))
        clear c0 c1 d0 d1 l1 l2
        go_wp2
        go_roundw
        case rel =>
          refine ⟨k + 1, by omega, by go_num, HG2.out, fun p hp => ?_⟩
          rw [take_get HZ.out] at hp
          rcases List.mem_append.1 hp with hp | hp
          · exact HA.out p hp
          · rw [List.mem_singleton.1 hp]
            exact HQ.out
        case measure => simp [intOf]; omega
    · obtain rfl : k = 4 := by omega
      have HF : Hid (inS xs ys ⟨lo, hi⟩ ⟨lo', hi'⟩ = inI ⟨lo, hi⟩ ⟨lo', hi'⟩) := Lib.hid (by
        rw [inS, show (xs.zip ys).all (fun p => inI p.1 p.2) = true from ?_, Bool.true_and]
        rw [List.all_eq_true]
        exact fun p hp => HA.out p (by rw [List.take_of_length_le (by rw [List.length_zip, HL1.out, HL2.out]; exact Nat.le_refl _)]; exact hp))
      obtain ⟨c0, c1⟩ := st_end (HB1.out.grew hg) HL1.out
      obtain ⟨d0, d1⟩ := st_end (HB2.out.grew hg) HL2.out
      have HCk := HE
      clear hg
      go_wp2_with fail
      first | refine wp_region_ext2 (by kernel_rfl) (by kernel_rfl) ?_ | refine wp_region_ext (by kernel_rfl) (by kernel_rfl) ?_
      repeat (go_big_quiet_step ((first | (with_reducible exact ext_grow (HCk.out _)))))
      refine wpQuiet_nil ?_
      intro _ hw'
      obtain ⟨u, hw''⟩ := hw'
      subst hw''
      have HG2 := Lib.hid (show Grew w (ext wr u) from grew_tr HG.out (gr))
      clear c0 c1 d0 d1 l1 l2
      go_wp2
      go_ret
      rw [HF.out]
      exact ⟨rfl, HG2.out⟩
theorem implInStateN (b1 : Nat) (w : World) :
    Calls Tryz.prog 66 #[.pointer (some ⟨b1, 0, none⟩), .pointer none] w fun e w' => e = .returned (.bool false) ∧ Grew w w' := by
  go_enter Tryz.func66, Tryz.ntmps66
  go_wp2
  go_ret
  exact ⟨rfl, Below.refl _ _⟩
/-- AbsIn of a state that is on and ok, and one that is ok. -/
theorem implAbsIn (a : Option Addr) (n c : Nat) (xs : List Itv) (lo hi : Int) (on' : Bool) (a' : Option Addr) (n' c' : Nat) (ys : List Itv) (lo' hi' : Int) (w : World) (hr : RdL EItv 2 w a n xs) (hr' : RdL EItv 2 w a' n' ys) (hn : n ≤ 9223372036854775807) (hn' : n' ≤ 9223372036854775807) (hc : n ≤ c) (hc' : n' ≤ c')
    (o1 : stOkB true xs lo hi = true) (o2 : stOkB on' ys lo' hi' = true) :
    Calls Tryz.prog 19 #[.agg #[.bool true, .slice a n c, .int .i64 lo, .int .i64 hi], .agg #[.bool on', .slice a' n' c', .int .i64 lo', .int .i64 hi']] w fun e w' => e = .returned (.bool (on' && inS xs ys ⟨lo, hi⟩ ⟨lo', hi'⟩)) ∧ Grew w w' := by
  have HC := Lib.hid (fun W (h : Grew w W) => implReadState true a n c xs lo hi W (hr.grew staysItv h) hn hc)
  have HD := Lib.hid (fun W (h : Grew w W) => implReadState on' a' n' c' ys lo' hi' W (hr'.grew staysItv h) hn' hc')
  have HO1 := Lib.hid o1
  have HO2 := Lib.hid o2
  clear hr hr' o1 o2
  go_enter Tryz.func19, Tryz.ntmps19
  go_wp2_with fail
  refine (HC.out _ (gr)).mono ?_
  rintro e w1 ⟨g1, ⟨h, rfl⟩ | ⟨h, b1, rfl, hb1, h1⟩⟩
  · rw [HO1.out] at h
    cases h
  have hG1 : Grew w w1 := grew_tr (gr) g1
  have q0 : w1.cell? ⟨w.heap.size + 1, 0, none⟩ = some (.bool on') := (g1.cell (p := ⟨w.heap.size + 1, 0, none⟩) (by simp)).trans (by simp [go_sem])
  have q1 : w1.cell? ⟨w.heap.size + 1, 1, none⟩ = some (.slice a' n' c') := (g1.cell (p := ⟨w.heap.size + 1, 1, none⟩) (by simp)).trans (by simp [go_sem])
  have q2 : w1.cell? ⟨w.heap.size + 1, 2, none⟩ = some (.int .i64 lo') := (g1.cell (p := ⟨w.heap.size + 1, 2, none⟩) (by simp)).trans (by simp [go_sem])
  have q3 : w1.cell? ⟨w.heap.size + 1, 3, none⟩ = some (.int .i64 hi') := (g1.cell (p := ⟨w.heap.size + 1, 3, none⟩) (by simp)).trans (by simp [go_sem])
  have HG1 := Lib.hid hG1
  have H1 := Lib.hid h1
  clear h hb1 h1 g1 hG1
  go_wp2_with fail
  refine (HD.out _ HG1.out).mono ?_
  rintro e w2 ⟨g2, ⟨h, rfl⟩ | ⟨h, b2, rfl, hb2, h2⟩⟩
  · rw [HO2.out] at h ⊢
    simp only [Bool.true_and] at h
    subst h
    have HG2 := Lib.hid (grew_tr HG1.out g2)
    have HS := Lib.hid (fun W => implInStateN b1 W)
    clear q0 q1 q2 q3 g2
    go_wp2_with ((with_reducible refine (HS.out _).mono ?_); rintro e w' ⟨rfl, g'⟩; (first | obtain ⟨y, rfl⟩ := ext_cold g' | obtain ⟨y, rfl⟩ := ext_col g' | obtain ⟨y, rfl⟩ := ext_of g'); clear g')
    go_ret
    refine ⟨by simp, ?_⟩
    have hg := HG2.out
    exact gr
  · rw [Bool.and_eq_true] at h
    have hon := h.2
    subst hon
    have HG2 := Lib.hid (grew_tr HG1.out g2)
    have HS := Lib.hid (implInState b1 b2 xs ys lo hi lo' hi' w2 (H1.out.grew g2) h2 HO1.out HO2.out)
    clear q0 q1 q2 q3 g2 h hb2 h2
    go_wp2_with fail
    refine HS.out.mono ?_
    rintro e w3 ⟨rfl, g3⟩
    have HG3 := Lib.hid (grew_tr HG2.out g3)
    clear g3
    go_wp2
    go_ret
    exact ⟨by simp, HG3.out⟩
end Go.Proofs.YtpmfpgbpndobpaaGreat
