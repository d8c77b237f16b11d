/- States: how they lie in memory; compared, marked; what comes to a procedure's beginning. No condition. -/
import Derived.Test.YtnjoofpllhbccaaMarks
import Derived.Test.YtnjoofpllhbccaaSums
import Derived.Test.YtnjoofpllhbccaaBlk
namespace Go.Proofs.Ytnjoofpllhbccaa
open Go.RowKit
set_option linter.unusedVariables false
attribute [local go_sem] ext_cell ext_frozen ext_lt ext_le ext_le1 lt_s2 lt_s3 lt_s4 lt_s5 lt_s6 ext_lt1 ext_lt2 ext_lt3

/-- A state. -/
structure St where
  on : Bool
  vars : List Itv
  lo : Int
  hi : Int
  deriving DecidableEq
/-- A state by value, its variables in a row that a call owns. -/
def OwnSt (w : World) (B : Nat) (val : Value) (s : St) : Prop :=
  ∃ a c, val = .agg #[.bool s.on, .slice a s.vars.length c, .int .i64 s.lo, .int .i64 s.hi] ∧ w.ownsRow B 32 2 (.slice a s.vars.length c) s.vars.length (s.vars.flatMap Itv.cells)

theorem cloneItv (a : Option Addr) (n cap : Nat) (xs : List Itv) (w : World) (hr : RdL EItv 2 w a n xs) (hrd : Rd w a n 2 (xs.flatMap Itv.cells)) (hn : 0 < n) (hm : n ≤ 1048576) :
    Calls Try.prog 121 #[.slice a n cap] w fun e w' => ∃ a' c', e = .returned (.slice a' n c') ∧ w'.ownsRow w.heap.size 32 2 (.slice a' n c') n (xs.flatMap Itv.cells) ∧ Grew w w' := by
  obtain ⟨b, off, lo, hi, rfl, hx, c0, c1, hb⟩ := rdItv_at hr hn
  have h0 : (w.alloc (.cells #[] 32)).ownsRow w.heap.size 32 2 (.slice (some ⟨w.heap.size, 0, none⟩) 0 0) 0 [] := World.ownsRow_lit w #[] 0 (Nat.le_refl _) (Nat.zero_le _) rfl
  obtain ⟨v1, w1, hrun, o1, g1, -⟩ := owns_append (P := Try.prog) _ itvEl h0 _ n cap _ (hrd.grew ((Below.refl _ _).alloc (Nat.le_refl _) _)) (itv_one _) (by omega) (by omega) (by simp)
  simp only [Nat.zero_add, List.nil_append] at o1
  have b1 : Grew w w1 := ((Below.refl _ _).alloc (Nat.le_refl _) _).grown g1 (by simp) (fun j hj => by simp [Value.ownBlock] at hj; omega)
  obtain ⟨a', c', rfl⟩ := owns_slice o1
  have R := Lib.hid hrun; clear hrun
  have O := Lib.hid o1; clear o1
  have G := Lib.hid b1; clear b1 g1 h0 hr hrd hx c0 c1
  have q : ∀ (w : World) (a : Option Addr) (n c n' c' : Nat), (binOp .eql 30 (.slice a n c) (.slice none n' c')).run Try.prog w = .ok (.bool a.isNone) w := fun w a n c n' c' => Lib.run_eql_slice_nil w _ _ a n c n' c' Try.underlying30
  go_enter Try.func121, Try.ntmps121
  go_wp2_with (at_builtin; refine wpList_append_run rfl _ _ rfl rfl rfl rfl R.out ?_)
  go_ret
  exact ⟨a', c', rfl, O.out, G.out⟩

theorem own_lit' {w : World} {B e size n b : Nat} {cs : Array Value} {xs : List Value} (hb : b = w.heap.size) (hx : cs.toList = xs) (hB : B ≤ w.heap.size) (hm : n ≤ maxLen) (hs : cs.size = n * size) :
    (w.alloc (.cells cs e)).ownsRow B e size (.slice (some ⟨b, 0, none⟩) n n) n xs := by
  subst hb hx
  exact World.ownsRow_lit w cs n hB hm hs

/-- What comes to a procedure's beginning. -/
def entrySt (lo hi : Int) : St := if itvOkB lo hi then ⟨true, [⟨lo, hi⟩, ⟨0, 0⟩, ⟨0, 0⟩, ⟨0, 0⟩], 0, 0⟩ else ⟨false, [], 0, 0⟩

theorem specAbsEntry (lo hi : Int) (v : Value) (w : World) (hv : v.oneCell' = true) :
    Calls Try.prog 16 #[.agg #[.int .i64 lo, .int .i64 hi, v]] w fun e w' => ∃ val, e = .returned val ∧ OwnSt w' w.heap.size val (entrySt lo hi) ∧ Grew w w' := by
  have C := fun w => specItvOk ⟨lo, hi⟩ w
  cases hB : itvOkB lo hi
  · rw [hB] at C
    have HC := Lib.hid C; clear C
    have HE : Hid (entrySt lo hi = ⟨false, [], 0, 0⟩) := Lib.hid (by simp [entrySt, hB])
    rw [HE.out]
    clear HE hB
    go_enter Try.func16, Try.ntmps16
    go_wp2_with ((with_reducible refine (HC.out _).mono ?_); rintro e w' ⟨rfl, g'⟩; (first | obtain ⟨y, rfl⟩ := ext_cold g' | obtain ⟨y, rfl⟩ := ext_col g' | obtain ⟨y, rfl⟩ := ext_of g'); clear g')
    go_returns
    refine ⟨_, rfl, ⟨none, 0, rfl, World.ownsRow_nil _ _ _ _⟩, ?_⟩
    repeat (first | with_reducible exact Below.refl _ _ | with_reducible assumption | with_reducible apply grew_ext | with_reducible apply grew_al | with_reducible apply grew_dn | with_reducible apply grew_d | (with_reducible refine grew_set ?_ (by first | omega | (repeat (first | with_reducible exact Nat.le_refl _ | with_reducible apply le_pl | with_reducible apply le_ext | with_reducible apply le_al))) _))
  · rw [hB] at C
    have HC := Lib.hid C; clear C
    have HE : Hid (entrySt lo hi = ⟨true, [⟨lo, hi⟩, ⟨0, 0⟩, ⟨0, 0⟩, ⟨0, 0⟩], 0, 0⟩) := Lib.hid (by simp [entrySt, hB])
    rw [HE.out]
    clear HE hB
    go_enter Try.func16, Try.ntmps16
    go_wp2_with ((with_reducible refine (HC.out _).mono ?_); rintro e w' ⟨rfl, g'⟩; (first | obtain ⟨y, rfl⟩ := ext_cold g' | obtain ⟨y, rfl⟩ := ext_col g' | obtain ⟨y, rfl⟩ := ext_of g'); clear g')
    go_returns
    refine ⟨_, rfl, ⟨_, _, rfl, own_lit' (by simp) rfl (by simp only [World.size_setCell]; repeat (first | exact Nat.le_refl _ | apply le_ext | apply le_al)) (by show 4 ≤ maxLen; decide) rfl⟩, ?_⟩
    repeat (first | with_reducible exact Below.refl _ _ | with_reducible assumption | with_reducible apply grew_ext | with_reducible apply grew_al | with_reducible apply grew_dn | with_reducible apply grew_d | (with_reducible refine grew_set ?_ (by first | omega | (repeat (first | with_reducible exact Nat.le_refl _ | with_reducible apply le_pl | with_reducible apply le_ext | with_reducible apply le_al))) _))

/-- A state behind a pointer: four variables and the cells. -/
def stArr (a b c d e : Itv) : Array Value := #[.int .i64 a.lo, .int .i64 a.hi, .int .i64 b.lo, .int .i64 b.hi, .int .i64 c.lo, .int .i64 c.hi, .int .i64 d.lo, .int .i64 d.hi, .int .i64 e.lo, .int .i64 e.hi]

set_option maxHeartbeats 1000000 in
theorem entryOf (lo hi : Int) (v : Value) (w : World) (hv : v.oneCell' = true) :
    Calls Try.prog 71 #[.agg #[.int .i64 lo, .int .i64 hi, v]] w fun e w' => ∃ g, e = .returned (.pointer (some ⟨g, 0, none⟩)) ∧ Blk w' g 104 (stArr ⟨lo, hi⟩ ⟨0, 0⟩ ⟨0, 0⟩ ⟨0, 0⟩ ⟨0, 0⟩) ∧ Grew w w' := by
  have C := Lib.hid (fun w => prcItv lo hi v w)
  go_enter Try.func71, Try.ntmps71
  go_wp2_with fail
  go_region_held3 (fun W => W.cell? ⟨w.heap.size, 0, none⟩ = some (.int .i64 lo) ∧ W.cell? ⟨w.heap.size, 1, none⟩ = some (.int .i64 hi) ∧ W.cell? ⟨w.heap.size, 2, none⟩ = some v) (first | assumption | (refine ⟨?_, ?_, ?_⟩ <;> simp [go_sem]))
    (first
    | (go_at_call 70; (with_reducible refine (C.out _).mono ?_); rintro e w1 ⟨rfl, g1⟩; (first | obtain ⟨y, rfl⟩ := ext_cold g1 | obtain ⟨y, rfl⟩ := ext_col g1 | obtain ⟨y, rfl⟩ := ext_of g1); clear g1))
  go_wp2
  go_ret
  refine ⟨_, rfl, ?_, ?_⟩
  · have h0 := Blk.new (w.alloc (.cells #[.int .i64 lo, .int .i64 hi, v] 25)) 104 #[.int .i64 0, .int .i64 0, .int .i64 0, .int .i64 0, .int .i64 0, .int .i64 0, .int .i64 0, .int .i64 0, .int .i64 0, .int .i64 0]
    simp only [World.size_alloc] at h0
    have h1 := ((h0.grew (grew_d (Below.refl _ _))).grew (ext_grew _ y)).set_ 0 (.int .i64 lo)
    exact h1.set_ 1 (.int .i64 hi)
  · repeat (first | with_reducible exact Below.refl _ _ | with_reducible assumption | with_reducible apply grew_ext | with_reducible apply grew_al | with_reducible apply grew_dn | with_reducible apply grew_d | (with_reducible refine grew_set ?_ (by first | omega | (repeat (first | with_reducible exact Nat.le_refl _ | with_reducible apply le_pl | with_reducible apply le_ext | with_reducible apply le_al))) _))

/-- A row of cells in the midst of a block reads. -/
theorem rd_blk {w : World} {g : Nat} {t : TypeId} {cs : Array Value} (h : Blk w g t cs) (off n size : Nat) (xs : List Value) (hl : xs.length = n * size) (hx : ∀ j u, xs[j]? = some u → cs[off + j]? = some u) : Rd w (some ⟨g, off, none⟩) n size xs :=
  ⟨hl, .inr ⟨g, off, rfl, fun j u hu => by rw [h.cell]; exact hx j u hu⟩⟩

set_option maxHeartbeats 1000000 in
theorem stAbs (g : Nat) (a b c d e : Itv) (w : World) (hb : Blk w g 104 (stArr a b c d e)) :
    Calls Try.prog 72 #[.pointer (some ⟨g, 0, none⟩)] w fun en w' => ∃ val, en = .returned val ∧ OwnSt w' w.heap.size val ⟨true, [a, b, c, d], e.lo, e.hi⟩ ∧ Grew w w' := by
  have hrd := rd_blk hb 0 4 2 ([a, b, c, d].flatMap Itv.cells) rfl (fun j u hu => by
    rw [Nat.zero_add]
    match j, hu with
    | 0, hu => exact hu
    | 1, hu => exact hu
    | 2, hu => exact hu
    | 3, hu => exact hu
    | 4, hu => exact hu
    | 5, hu => exact hu
    | 6, hu => exact hu
    | 7, hu => exact hu
    | (k + 8), hu => simp [Itv.cells] at hu)
  have hrl : RdL EItv 2 w (some ⟨g, 0, none⟩) 4 [a, b, c, d] := rdl_of_rd Itv.cells (by omega) itv_len rfl hrd (fun x _ => rfl)
  have HRD := Lib.hid hrd; clear hrd
  have HRL := Lib.hid hrl; clear hrl
  have hlt := hb.lt
  have c8 : w.cell? ⟨g, 8, none⟩ = some (.int .i64 e.lo) := hb.cell 8
  have c9 : w.cell? ⟨g, 9, none⟩ = some (.int .i64 e.hi) := hb.cell 9
  obtain ⟨q0, q1, q2⟩ := lt3 hlt
  clear hb
  have nq : ∀ (w : World) (p : Addr), (binOp .eql 96 (.pointer (some p)) (.pointer none)).run Try.prog w = .ok (.bool false) w := fun w p => by simp [go_sem]
  go_enter Try.func72, Try.ntmps72
  go_wp2_with fail
  go_region_held3 (fun W => W.cell? ⟨g, 8, none⟩ = some (.int .i64 e.lo) ∧ W.cell? ⟨g, 9, none⟩ = some (.int .i64 e.hi)) (first | assumption | (refine ⟨?_, ?_⟩ <;> simp [go_sem, *]))
    (first
    | (go_at_call 121; refine (cloneItv _ 4 4 [a, b, c, d] _ (HRL.out.grew staysItv (by repeat (first | with_reducible exact Below.refl _ _ | with_reducible assumption | with_reducible apply grew_ext | with_reducible apply grew_al | with_reducible apply grew_dn | with_reducible apply grew_d | (with_reducible refine grew_set ?_ (by first | omega | (repeat (first | with_reducible exact Nat.le_refl _ | with_reducible apply le_pl | with_reducible apply le_ext | with_reducible apply le_al))) _)))) (HRD.out.grew (by repeat (first | with_reducible exact Below.refl _ _ | with_reducible assumption | with_reducible apply grew_ext | with_reducible apply grew_al | with_reducible apply grew_dn | with_reducible apply grew_d | (with_reducible refine grew_set ?_ (by first | omega | (repeat (first | with_reducible exact Nat.le_refl _ | with_reducible apply le_pl | with_reducible apply le_ext | with_reducible apply le_al))) _)))) (by omega) (by omega)).mono ?_; rintro e' w1 ⟨a', c', rfl, o1, g1⟩; have O1 := Lib.hid o1; clear o1; (first | obtain ⟨y, rfl⟩ := ext_cold g1 | obtain ⟨y, rfl⟩ := ext_col g1 | obtain ⟨y, rfl⟩ := ext_of g1); clear g1))
  go_wp2
  go_returns
  refine ⟨_, rfl, ⟨a', c', rfl, ?_⟩, ?_⟩
  · exact owns_mono (owns_set (owns_set (owns_set (owns_set O1.out (by simp) _) (by simp) _) (by simp) _) (by simp) _) (by simp <;> omega)
  · repeat (first | with_reducible exact Below.refl _ _ | with_reducible assumption | with_reducible apply grew_ext | with_reducible apply grew_al | with_reducible apply grew_dn | with_reducible apply grew_d | (with_reducible refine grew_set ?_ (by first | omega | (repeat (first | with_reducible exact Nat.le_refl _ | with_reducible apply le_pl | with_reducible apply le_ext | with_reducible apply le_al))) _))

theorem stAbsNil (w : World) :
    Calls Try.prog 72 #[.pointer none] w fun en w' => ∃ val, en = .returned val ∧ OwnSt w' w.heap.size val ⟨false, [], 0, 0⟩ ∧ Grew w w' := by
  go_enter Try.func72, Try.ntmps72
  go_wp2
  go_returns
  refine ⟨_, rfl, ⟨none, 0, rfl, World.ownsRow_nil _ _ _ _⟩, ?_⟩
  repeat (first | with_reducible exact Below.refl _ _ | with_reducible assumption | with_reducible apply grew_ext | with_reducible apply grew_al | with_reducible apply grew_dn | with_reducible apply grew_d | (with_reducible refine grew_set ?_ (by first | omega | (repeat (first | with_reducible exact Nat.le_refl _ | with_reducible apply le_pl | with_reducible apply le_ext | with_reducible apply le_al))) _))

set_option maxHeartbeats 1000000 in
theorem implAbsEntry (lo hi : Int) (v : Value) (w : World) (hv : v.oneCell' = true) :
    Calls Try.prog 14 #[.agg #[.int .i64 lo, .int .i64 hi, v]] w fun e w' => ∃ val, e = .returned val ∧ OwnSt w' w.heap.size val (entrySt lo hi) ∧ Grew w w' := by
  have CI := Lib.hid (fun w => prcItv lo hi v w)
  have C := fun w => itvOk lo hi w
  cases hB : itvOkB lo hi
  · rw [hB] at C
    have HC := Lib.hid C; clear C
    have HE : Hid (entrySt lo hi = ⟨false, [], 0, 0⟩) := Lib.hid (by simp [entrySt, hB])
    rw [HE.out]
    clear HE hB
    go_enter Try.func14, Try.ntmps14
    go_wp2_with (first | ((with_reducible refine (CI.out _).mono ?_); rintro e w' ⟨rfl, g'⟩; (first | obtain ⟨y, rfl⟩ := ext_cold g' | obtain ⟨y, rfl⟩ := ext_col g' | obtain ⟨y, rfl⟩ := ext_of g'); clear g') | ((with_reducible refine (HC.out _).mono ?_); rintro e w' ⟨rfl, g'⟩; (first | obtain ⟨z, rfl⟩ := ext_cold g' | obtain ⟨z, rfl⟩ := ext_col g' | obtain ⟨z, rfl⟩ := ext_of g'); clear g'))
    go_returns
    refine ⟨_, rfl, ⟨none, 0, rfl, World.ownsRow_nil _ _ _ _⟩, ?_⟩
    repeat (first | with_reducible exact Below.refl _ _ | with_reducible assumption | with_reducible apply grew_ext | with_reducible apply grew_al | with_reducible apply grew_dn | with_reducible apply grew_d | (with_reducible refine grew_set ?_ (by first | omega | (repeat (first | with_reducible exact Nat.le_refl _ | with_reducible apply le_pl | with_reducible apply le_ext | with_reducible apply le_al))) _))
  · rw [hB] at C
    have HC := Lib.hid C; clear C
    have HE : Hid (entrySt lo hi = ⟨true, [⟨lo, hi⟩, ⟨0, 0⟩, ⟨0, 0⟩, ⟨0, 0⟩], 0, 0⟩) := Lib.hid (by simp [entrySt, hB])
    rw [HE.out]
    clear HE hB
    go_enter Try.func14, Try.ntmps14
    go_wp2_with (first | ((with_reducible refine (CI.out _).mono ?_); rintro e w' ⟨rfl, g'⟩; (first | obtain ⟨y, rfl⟩ := ext_cold g' | obtain ⟨y, rfl⟩ := ext_col g' | obtain ⟨y, rfl⟩ := ext_of g'); clear g') | ((with_reducible refine (HC.out _).mono ?_); rintro e w' ⟨rfl, g'⟩; (first | obtain ⟨z, rfl⟩ := ext_cold g' | obtain ⟨z, rfl⟩ := ext_col g' | obtain ⟨z, rfl⟩ := ext_of g'); clear g'))
    refine (entryOf lo hi v _ hv).mono ?_
    rintro e w1 ⟨g, rfl, hb, g1⟩
    (first | obtain ⟨u, rfl⟩ := ext_cold g1 | obtain ⟨u, rfl⟩ := ext_col g1 | obtain ⟨u, rfl⟩ := ext_of g1); clear g1
    have HB := Lib.hid hb; clear hb
    go_wp2_with fail
    refine (stAbs g _ _ _ _ _ _ HB.out).mono ?_
    rintro e w1 ⟨val, rfl, ⟨a', c', rfl, o1⟩, g1⟩
    (first | obtain ⟨x, rfl⟩ := ext_cold g1 | obtain ⟨x, rfl⟩ := ext_col g1 | obtain ⟨x, rfl⟩ := ext_of g1); clear g1
    have O1 := Lib.hid (owns_mono (base' := w.heap.size + 2) o1 (by have h := ext_size _ u; simp only [World.size_alloc] at h; omega)); clear o1
    go_wp2
    go_returns
    refine ⟨_, rfl, ⟨a', c', rfl, ?_⟩, ?_⟩
    · exact owns_mono (owns_set (owns_set (owns_set (owns_set O1.out (by simp) _) (by simp) _) (by simp) _) (by simp) _) (by omega)
    · repeat (first | with_reducible exact Below.refl _ _ | with_reducible assumption | with_reducible apply grew_ext | with_reducible apply grew_al | with_reducible apply grew_dn | with_reducible apply grew_d | (with_reducible refine grew_set ?_ (by first | omega | (repeat (first | with_reducible exact Nat.le_refl _ | with_reducible apply le_pl | with_reducible apply le_ext | with_reducible apply le_al))) _))
end Go.Proofs.Ytnjoofpllhbccaa
