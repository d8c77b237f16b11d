/- Lemmas and walks of this proof, some texts one behind the other. No condition. -/
import Derived.Test.YtdddhnepanjmfaaGreatItvM
import Derived.Test.YtdddhnepanjmfaaGreatReadS
import Derived.Test.YtdddhnepanjmfaaGreatStN
import Derived.Test.YtdddhnepanjmfaaGreatOr
set_option linter.unusedSimpArgs false
set_option linter.unusedVariables false
/- States copied and measured by the law's glue. No condition. -/
namespace Go.Proofs.YtdddhnepanjmfaaGreat
open Go.RowKit Go.ChangeShapes Go.WideShapes Go.Deep
set_option linter.unusedVariables false
set_option linter.unusedSimpArgs false
attribute [local go_sem] ext_cell ext_frozen ext_lt ext_le ext_le1 lt_s2 lt_s3 lt_s4 lt_s5 lt_s6 ext_lt1 ext_lt2 ext_lt3

set_option maxHeartbeats 2000000 in
theorem toItvItvS (a : Option Addr) (n cap : Nat) (xs : List Itv) (w : World) (hr : RdL EItv 2 w a n xs) (hm : n ≤ 1048576) :
    Calls Tryz.prog 150 #[.slice a n cap] w fun e w' => ∃ v, e = .returned v ∧ w'.ownsRow w.heap.size 98 2 v n (xs.flatMap Itv.cells) ∧ Grew w w' := by
  have hl := hr.len
  obtain ⟨i0, hi, hz0, hz1, hz2⟩ := info_parts itvInfo
  obtain ⟨w1, hmk, hown, hgr⟩ := run_make_full (P := Tryz.prog) w w.heap.size 104 98 i0 (.agg #[.int .i64 0, .int .i64 0]) 2 Tryz.underlying104 hi hz0 hz1 .i64 .i64 n (by rw [hz2]; omega) (by unfold maxLen; omega) (Nat.le_refl _)
  have HB := Lib.hid (Below.of_grownBy hgr (Nat.le_refl _) (fun k e => nomatch e)); clear hgr
  have HR := Lib.hid hr; clear hr
  have HL := Lib.hid hl; clear hl
  have HO := Lib.hid hown; clear hown
  clear hi hz0 hz1 hz2
  go_enter Tryz.func150, Tryz.ntmps150
  go_wp2
  clear hmk
  go_loopw [4] (fun i wr => ∃ k : Nat, k ≤ n ∧ i = .int .i64 k ∧ Grew w wr ∧ ∃ ys, wr.ownsRow w.heap.size 98 2 (.slice (some ⟨w.heap.size, 0, none⟩) n n) n ys ∧ ∀ j, j < (xs.take k).length * 2 → ys[j]? = ((xs.take k).flatMap Itv.cells)[j]?) (fun i _ => n - (intOf i).toNat)
  case atStart => exact ⟨0, Nat.zero_le _, rfl, HB.out, _, HO.out, fun j hj => absurd hj (by simp)⟩
  case round =>
    obtain ⟨k, hk, rfl, hg, ys, how, hys⟩ := hrel
    by_cases hlt : k < n
    · obtain ⟨b, off, lo, hi, rfl, hx, c0, c1, hb⟩ := rdItv_at (HR.out.grew staysItv hg) hlt
      have HX := Lib.hid hx; clear hx
      have HH := Lib.hid hys; clear hys
      have HG := Lib.hid hg; clear hg
      have HW := Lib.hid how; clear how
      go_wp2_with fail
      ((with_reducible refine (toItvItv ⟨lo, hi⟩ _).mono ?_); rintro e w2 ⟨rfl, g2⟩)
      have HW2 := Lib.hid (owns_grew HW.out g2)
      obtain ⟨y0, e0⟩ := own_some HW2.out (j := k * 2) (by omega)
      obtain ⟨y1, e1⟩ := own_some HW2.out (j := k * 2 + 1) (by omega)
      have f0 := fun j => HW2.out.frozenAt j
      have G2 := Lib.hid (grew_tr HG.out g2); clear g2
      clear c0 c1
      go_wp2
      go_roundw
      case rel =>
        obtain ⟨ho', hg'⟩ := own_sets (Itv.cells ⟨lo, hi⟩) _ _ (k * 2) HW2.out
        have hkl : (xs.take k).length = k := by rw [List.length_take]; have := HL.out; omega
        have hst := pre_step (f := Itv.cells) itv_len ⟨lo, hi⟩ HW2.out.1 (by rw [hkl]; omega) HH.out
        rw [hkl, ← take_get HX.out] at hst
        exact ⟨k + 1, by omega, by go_num, G2.out.grown hg' G2.out.size (fun j hj => by obtain rfl := Option.some.inj hj; exact Nat.le_refl _), _, ho', hst⟩
      case measure => simp [intOf]; omega
    · have hfin : ys = xs.flatMap Itv.cells := by
        have h2 := HL.out
        rw [List.take_of_length_le (by omega)] at hys
        exact pre_all itv_len how.1 h2 hys
      subst hfin
      clear hys
      have HO := Lib.hid how; clear how
      have HG := Lib.hid hg; clear hg
      go_wp2
      go_ret
      exact ⟨_, rfl, HO.out, HG.out⟩

theorem szItvItvS (a : Option Addr) (n cap : Nat) (left : Int) (w : World) (h0 : 0 ≤ left) (h1 : left ≤ 1048576) (hn : n ≤ 9223372036854775807) :
    Calls Tryz.prog 146 #[.slice a n cap, .int .i64 left] w fun e w' => e = .returned (.int .i64 (if left < n then -1 else left - n)) ∧ w = w' := by
  by_cases h : left < n
  · have h2 : left - n < 0 := by omega
    rw [if_pos h]
    clear h
    go_enter Tryz.func146, Tryz.ntmps146
    go_wp2
    go_ret
    exact ⟨rfl, rfl⟩
  · have h2 : ¬ left - n < 0 := by omega
    have h3 : 0 ≤ left - n := by omega
    rw [if_neg h]
    clear h
    go_enter Tryz.func146, Tryz.ntmps146
    go_wp2
    go_ret
    exact ⟨rfl, rfl⟩

theorem szAbsState (on : Bool) (a : Option Addr) (n c : Nat) (lo hi left : Int) (w : World) (h0 : 0 ≤ left) (h1 : left ≤ 1048576) (hn : n ≤ 9223372036854775807) :
    Calls Tryz.prog 111 #[.agg #[.bool on, .slice a n c, .int .i64 lo, .int .i64 hi], .int .i64 left] w fun e w' => e = .returned (.int .i64 (if left < n then -1 else left - n)) ∧ Grew w w' := by
  have C := fun W => szItvItvS a n c left W h0 h1 hn
  by_cases h : left < n
  · rw [if_pos h] at C ⊢
    have HC := Lib.hid C; clear C h
    go_enter Tryz.func111, Tryz.ntmps111
    go_wp2_with fail
    refine (HC.out _).mono ?_
    rintro e w1 ⟨rfl, rfl⟩
    go_wp2
    go_ret
    exact ⟨rfl, gr⟩
  · rw [if_neg h] at C ⊢
    have h2 : ¬ left - n < 0 := by omega
    have HC := Lib.hid C; clear C h
    go_enter Tryz.func111, Tryz.ntmps111
    go_wp2_with fail
    refine (HC.out _).mono ?_
    rintro e w1 ⟨rfl, rfl⟩
    go_wp2
    go_ret
    exact ⟨rfl, gr⟩
set_option maxHeartbeats 2000000 in
/-- A copy of a state. -/
theorem toAbsState (on : Bool) (a : Option Addr) (n c : Nat) (xs : List Itv) (lo hi : Int) (w : World) (hr : RdL EItv 2 w a n xs) (hm : n ≤ 1048576) :
    Calls Tryz.prog 116 #[.agg #[.bool on, .slice a n c, .int .i64 lo, .int .i64 hi]] w fun e w' => ∃ a' c', e = .returned (.agg #[.bool on, .slice a' n c', .int .i64 lo, .int .i64 hi]) ∧ w'.ownsRow w.heap.size 98 2 (.slice a' n c') n (xs.flatMap Itv.cells) ∧ Grew w w' := by
  have HT := Lib.hid (fun W (g : Grew w W) => toItvItvS a n c xs W (hr.grew staysItv g) hm)
  have HI := Lib.hid (fun W => toItvItv ⟨lo, hi⟩ W)
  clear hr
  go_enter Tryz.func116, Tryz.ntmps116
  go_wp2_with fail
  refine (HT.out _ (gr)).mono ?_
  rintro e w1 ⟨v, rfl, ho, g1⟩
  obtain ⟨a', c', rfl⟩ := owns_slice ho
  have hG : Grew w w1 := grew_tr (gr) g1
  have p2 : w1.cell? ⟨w.heap.size, 2, none⟩ = some (.int .i64 lo) := (g1.cell (p := ⟨w.heap.size, 2, none⟩) (by simp; omega)).trans (by simp [go_sem])
  have p3 : w1.cell? ⟨w.heap.size, 3, none⟩ = some (.int .i64 hi) := (g1.cell (p := ⟨w.heap.size, 3, none⟩) (by simp; omega)).trans (by simp [go_sem])
  have Y4 : Blk w1 (w.heap.size + 1) 106 #[.bool false, .slice none 0 0, .int .i64 0, .int .i64 0] := ((by (repeat (first | with_reducible assumption | with_reducible exact Blk.new' (by simp only [World.size_alloc, World.size_drew, World.size_setCell]) | with_reducible refine Blk.alloc ?_ _ | with_reducible refine Blk.grew ?_ (grew_d (Below.refl _ _)) | with_reducible refine Blk.far ?_ (by first | assumption | (simp only; omega)) _)) : Blk (((w.alloc (.cells #[.bool on, .slice a n c, .int .i64 lo, .int .i64 hi] 180)).alloc (.cells #[.bool false, .slice none 0 0, .int .i64 0, .int .i64 0] 106)).alloc (.cells #[.bool on, .slice none 0 0, .int .i64 0, .int .i64 0] 106)) (w.heap.size + 1) 106 #[.bool false, .slice none 0 0, .int .i64 0, .int .i64 0]).grew g1)
  have Z4 : Blk w1 (w.heap.size + 1 + 1) 106 #[.bool on, .slice none 0 0, .int .i64 0, .int .i64 0] := ((by (repeat (first | with_reducible assumption | with_reducible exact Blk.new' (by simp only [World.size_alloc, World.size_drew, World.size_setCell]) | with_reducible refine Blk.alloc ?_ _ | with_reducible refine Blk.grew ?_ (grew_d (Below.refl _ _)) | with_reducible refine Blk.far ?_ (by first | assumption | (simp only; omega)) _)) : Blk (((w.alloc (.cells #[.bool on, .slice a n c, .int .i64 lo, .int .i64 hi] 180)).alloc (.cells #[.bool false, .slice none 0 0, .int .i64 0, .int .i64 0] 106)).alloc (.cells #[.bool on, .slice none 0 0, .int .i64 0, .int .i64 0] 106)) (w.heap.size + 1 + 1) 106 #[.bool on, .slice none 0 0, .int .i64 0, .int .i64 0]).grew g1)
  have zf := fun j => Z4.frozen j
  have zl := Z4.lt
  have HO := Lib.hid ho
  have HY := Lib.hid Y4
  have HZ := Lib.hid Z4
  have HG := Lib.hid hG
  have z0 := Z4.cell 0
  have z1 := Z4.cell 1
  have z2 := Z4.cell 2
  have z3 := Z4.cell 3
  simp only [List.getElem?_toArray, List.getElem?_cons_zero, List.getElem?_cons_succ] at z0 z1 z2 z3
  clear ho g1 hG Z4 Y4
  go_wp2_with fail
  refine (HI.out _).mono ?_
  rintro e w2 ⟨rfl, g2⟩
  have HZ2 := (HZ.out.set_ 1 (.slice a' n c')).grew g2
  have HY2 := (HY.out.far (p := ⟨w.heap.size + 1 + 1, 1, none⟩) (by first | omega | (simp only; omega)) (.slice a' n c')).grew g2
  have HO2 := Lib.hid (owns_grew (owns_set HO.out (by simp) (.slice a' n c')) g2)
  have HG2 := Lib.hid (grew_tr (grew_set HG.out (by first | omega | (simp only; omega)) (.slice a' n c')) g2)
  have y0 := HY2.cell 0
  have y1 := HY2.cell 1
  have y2 := HY2.cell 2
  have y3 := HY2.cell 3
  have yf := fun j => HY2.frozen j
  have yl := HY2.lt
  have z0 := HZ2.cell 0
  have z1 := HZ2.cell 1
  have z2 := HZ2.cell 2
  have z3 := HZ2.cell 3
  have zf := fun j => HZ2.frozen j
  have zl := HZ2.lt
  simp only [List.getElem?_toArray, List.getElem?_cons_zero, List.getElem?_cons_succ, Array.set!_eq_setIfInBounds, List.setIfInBounds_toArray, List.set_cons_succ, List.set_cons_zero] at z0 z1 z2 z3 y0 y1 y2 y3
  clear HY HZ HO HG HZ2 HY2 g2
  go_wp2
  refine bodyPost_ret (by simp [results, Tryz.results116, go_sem, y0, y1, y2, y3, yl]; try rfl) rfl ?_
  refine ⟨a', c', rfl, owns_mono (owns_set (owns_set (owns_set (owns_set (owns_set (owns_set HO2.out (by first | omega | (simp; try omega)) _) (by first | omega | (simp; try omega)) _) (by first | omega | (simp; try omega)) _) (by first | omega | (simp; try omega)) _) (by first | omega | (simp; try omega)) _) (by first | omega | (simp; try omega)) _) (by simp; try omega), (grew_set (grew_set (grew_set (grew_set (grew_set (grew_set HG2.out (by first | omega | (simp only; omega)) _) (by first | omega | (simp only; omega)) _) (by first | omega | (simp only; omega)) _) (by first | omega | (simp only; omega)) _) (by first | omega | (simp only; omega)) _) (by first | omega | (simp only; omega)) _)⟩
end Go.Proofs.YtdddhnepanjmfaaGreat

/- Certificates: how they lie in memory, how great they are, what a copy of one owns. No condition. -/
namespace Go.Proofs.YtdddhnepanjmfaaGreat
open Go.RowKit
set_option linter.unusedVariables false
set_option linter.unusedSimpArgs false

structure Crt where
  states : List (List St)
  outs : List Sum
  deriving DecidableEq

/-! ### Read -/
def ESt : World → List Value → St → Prop := fun w cs s => ∃ a c, cs = [.bool s.on, .slice a s.vars.length c, .int .i64 s.lo, .int .i64 s.hi] ∧ RdL EItv 2 w a s.vars.length s.vars ∧ s.vars.length ≤ c ∧ c ≤ maxLen
def ERow : World → List Value → List St → Prop := fun w cs r => ∃ a c, cs = [.slice a r.length c] ∧ RdL ESt 4 w a r.length r ∧ r.length ≤ c ∧ c ≤ maxLen
def ECrt : World → List Value → Crt → Prop := fun w cs x => ∃ a c a' c', cs = [.slice a x.states.length c, .slice a' x.outs.length c'] ∧ RdL ERow 1 w a x.states.length x.states ∧ RdL ESum 3 w a' x.outs.length x.outs ∧ (x.states.length ≤ c ∧ c ≤ maxLen) ∧ x.outs.length ≤ c' ∧ c' ≤ maxLen
theorem staysSt : Stays ESt := fun w w' cs s hg ⟨a, c, h1, h2, h3⟩ => ⟨a, c, h1, h2.grew staysItv hg, h3⟩
theorem staysRow : Stays ERow := fun w w' cs s hg ⟨a, c, h1, h2, h3⟩ => ⟨a, c, h1, h2.grew staysSt hg, h3⟩
theorem staysCrt : Stays ECrt := fun w w' cs s hg ⟨a, c, a', c', h1, h2, h3, h4⟩ => ⟨a, c, a', c', h1, h2.grew staysRow hg, h3.grew staysSum hg, h4⟩
theorem rdSt_at {w : World} {a : Option Addr} {n : Nat} {xs : List St} (h : RdL ESt 4 w a n xs) {k : Nat} (hk : k < n) : ∃ b off on va vars vc lo hi, a = some ⟨b, off, none⟩ ∧ xs[k]? = some ⟨on, vars, lo, hi⟩ ∧
    w.cell? ⟨b, off + k * 4, none⟩ = some (.bool on) ∧ w.cell? ⟨b, off + k * 4 + 1, none⟩ = some (.slice va vars.length vc) ∧ w.cell? ⟨b, off + k * 4 + 2, none⟩ = some (.int .i64 lo) ∧ w.cell? ⟨b, off + k * 4 + 3, none⟩ = some (.int .i64 hi) ∧ b < w.heap.size ∧
    RdL EItv 2 w va vars.length vars ∧ vars.length ≤ vc ∧ vc ≤ maxLen := by
  obtain ⟨b, off, ⟨on, vars, lo, hi⟩, cs, rfl, hx, _, hc, ⟨va, vc, rfl, h1, h2, h3⟩⟩ := h.at_ hk
  exact ⟨b, off, on, va, vars, vc, lo, hi, rfl, hx, hc 0 _ rfl, hc 1 _ rfl, hc 2 _ rfl, hc 3 _ rfl, h.lt (by omega) rfl, h1, h2, h3⟩
theorem rdRow_at {w : World} {a : Option Addr} {n : Nat} {xs : List (List St)} (h : RdL ERow 1 w a n xs) {k : Nat} (hk : k < n) : ∃ b off va r vc, a = some ⟨b, off, none⟩ ∧ xs[k]? = some r ∧
    w.cell? ⟨b, off + k, none⟩ = some (.slice va r.length vc) ∧ b < w.heap.size ∧ RdL ESt 4 w va r.length r ∧ r.length ≤ vc ∧ vc ≤ maxLen := by
  obtain ⟨b, off, r, cs, rfl, hx, _, hc, ⟨va, vc, rfl, h1, h2, h3⟩⟩ := h.at_ hk
  exact ⟨b, off, va, r, vc, rfl, hx, by have := hc 0 _ rfl; rw [Nat.mul_one] at this; exact this, h.lt (by omega) rfl, h1, h2, h3⟩
theorem rdCrt_at {w : World} {a : Option Addr} {n : Nat} {xs : List Crt} (h : RdL ECrt 2 w a n xs) {k : Nat} (hk : k < n) : ∃ b off va ss vc oa os oc, a = some ⟨b, off, none⟩ ∧ xs[k]? = some ⟨ss, os⟩ ∧
    w.cell? ⟨b, off + k * 2, none⟩ = some (.slice va ss.length vc) ∧ w.cell? ⟨b, off + k * 2 + 1, none⟩ = some (.slice oa os.length oc) ∧ b < w.heap.size ∧
    RdL ERow 1 w va ss.length ss ∧ RdL ESum 3 w oa os.length os ∧ (ss.length ≤ vc ∧ vc ≤ maxLen) ∧ os.length ≤ oc ∧ oc ≤ maxLen := by
  obtain ⟨b, off, ⟨ss, os⟩, cs, rfl, hx, _, hc, ⟨va, vc, oa, oc, rfl, h1, h2, h3, h4⟩⟩ := h.at_ hk
  exact ⟨b, off, va, ss, vc, oa, os, oc, rfl, hx, hc 0 _ rfl, hc 1 _ rfl, h.lt (by omega) rfl, h1, h2, h3, h4⟩

/-! ### How great -/
def bulkR (r : List St) : Nat := r.length + (r.map fun s => s.vars.length).sum
def bulkSS (ss : List (List St)) : Nat := ss.length + (ss.map bulkR).sum
def bulkC (x : Crt) : Nat := bulkSS x.states + x.outs.length
def bulkCs (xs : List Crt) : Nat := xs.length + (xs.map bulkC).sum
theorem sum_take {α : Type} (f : α → Nat) {xs : List α} {k : Nat} {x : α} (h : xs[k]? = some x) : ((xs.take (k + 1)).map f).sum = ((xs.take k).map f).sum + f x := by
  rw [List.take_add_one, h]
  simp
theorem sum_take_le {α : Type} (f : α → Nat) : ∀ (xs : List α) (k : Nat), ((xs.take k).map f).sum ≤ (xs.map f).sum
  | [], k => by simp
  | x :: xs, 0 => by simp
  | x :: xs, k + 1 => by
    have := sum_take_le f xs k
    simp only [List.take_succ_cons, List.map_cons, List.sum_cons]
    omega
theorem sum_mem_le {α : Type} (f : α → Nat) {xs : List α} {x : α} (h : x ∈ xs) : f x ≤ (xs.map f).sum := by
  induction xs with
  | nil => cases h
  | cons y ys ih =>
    simp only [List.map_cons, List.sum_cons]
    rcases List.mem_cons.1 h with rfl | h
    · omega
    · have := ih h; omega

/-! ### Owned -/
abbrev StM := St × Value
def fSt (m : StM) : List Value := [.bool m.1.on, m.2, .int .i64 m.1.lo, .int .i64 m.1.hi]
def QSt (l u : Nat) (w : World) (m : StM) : Prop := w.ownsRow l 98 2 m.2 m.1.vars.length (m.1.vars.flatMap Itv.cells) ∧ (∀ b, m.2.ownBlock = some b → b < u) ∧ l ≤ u ∧ u ≤ w.heap.size
theorem goodSt : GoodQ QSt := by
  refine ⟨?_, ?_⟩
  · rintro lo hi w w' m F ⟨h1, h2, h3, h4⟩ c hF
    exact ⟨owns_chg h1 c (fun b hb e => hF b (h1.lt b hb).1 (h2 b hb) e), h2, h3, Nat.le_trans h4 c.size⟩
  · rintro lo hi lo' hi' w m ⟨h1, h2, h3, h4⟩ hl hh hs
    exact ⟨owns_mono h1 hl, fun b hb => by have := h2 b hb; omega, by omega, hs⟩
abbrev RowM := List StM × Value
def fRow (m : RowM) : List Value := [m.2]
def QRow (l u : Nat) (w : World) (m : RowM) : Prop := OwnR 106 4 fSt QSt l u w m.2 m.1
theorem goodRow : GoodQ QRow := goodR goodSt
abbrev SsM := List RowM × Value
def QSs (l u : Nat) (w : World) (m : SsM) : Prop := OwnR 92 1 fRow QRow l u w m.2 m.1
theorem goodSs : GoodQ QSs := goodR goodRow
abbrev CrtM := SsM × (List Sum × Value)
def fCrt (m : CrtM) : List Value := [m.1.2, m.2.2]
def QCrt (l u : Nat) (w : World) (m : CrtM) : Prop := ∃ k, QSs l k w m.1 ∧ w.ownsRow k 100 3 m.2.2 m.2.1.length (m.2.1.flatMap Sum.cells) ∧ (∀ b, m.2.2.ownBlock = some b → b < u) ∧ k ≤ u ∧ u ≤ w.heap.size
theorem goodCrt : GoodQ QCrt := by
  refine ⟨?_, ?_⟩
  · rintro lo hi w w' m F ⟨k, h0, h1, h2, h3, h4⟩ c hF
    have hl := OwnR.lohi h0
    exact ⟨k, goodSs.stay h0 c (fun b hb1 hb2 => hF b hb1 (by omega)), owns_chg h1 c (fun b hb e => hF b (by have := (h1.lt b hb).1; omega) (h2 b hb) e), h2, h3, Nat.le_trans h4 c.size⟩
  · rintro lo hi lo' hi' w m ⟨k, h0, h1, h2, h3, h4⟩ hl hh hs
    exact ⟨k, goodSs.mono h0 hl (Nat.le_refl _) (by omega), h1, fun b hb => by have := h2 b hb; omega, by omega, hs⟩
def pRow (m : RowM) : List St := m.1.map (·.1)
def pSs (m : SsM) : List (List St) := m.1.map pRow
def pCrt (m : CrtM) : Crt := ⟨pSs m.1, m.2.1⟩
theorem owns_capR {w : World} {B n c e s : Nat} {a : Option Addr} {xs : List Value} (h : w.ownsRow B e s (.slice a n c) n xs) : n ≤ c ∧ c ≤ maxLen := by
  rcases h.2 with ⟨h1, h2⟩ | ⟨g, cap', cur, h1, _, _, h4, h5, _⟩
  · simp only [Value.slice.injEq] at h1
    obtain ⟨-, rfl, rfl⟩ := h1
    exact ⟨Nat.le_refl _, Nat.zero_le _⟩
  · simp only [Value.slice.injEq] at h1
    obtain ⟨-, -, rfl⟩ := h1
    exact ⟨h4, h5⟩
theorem qst_e {l u : Nat} {w : World} {m : StM} (h : QSt l u w m) : ESt w (fSt m) m.1 := by
  obtain ⟨s, v⟩ := m
  have h1 : w.ownsRow l 98 2 v s.vars.length (s.vars.flatMap Itv.cells) := h.1
  clear h
  obtain ⟨a, c, rfl⟩ := owns_slice h1
  exact ⟨a, c, rfl, rdItv_of_own rfl h1, owns_capR h1⟩
theorem qrow_e {l u : Nat} {w : World} {m : RowM} (h : QRow l u w m) : ERow w (fRow m) (pRow m) := by
  obtain ⟨ms, v⟩ := m
  have h0 : OwnR 106 4 fSt QSt l u w v ms := h
  clear h
  obtain ⟨a, c, rfl⟩ := owns_slice h0.1
  refine ⟨a, c, by simp [fRow, pRow], ?_, by simpa [pRow] using owns_capR h0.1⟩
  have := OwnR.rd (E := ESt) (C := 4) (f := fSt) (Q := QSt) (p := fun m : StM => m.1) (by omega) (fun _ => rfl) h0 (fun _ _ _ hq => qst_e hq)
  simpa [pRow] using this
theorem qss_rd {l u n : Nat} {w : World} {a : Option Addr} {c : Nat} {ms : List RowM} (h : OwnR 92 1 fRow QRow l u w (.slice a n c) ms) : RdL ERow 1 w a n (ms.map pRow) :=
  OwnR.rd (E := ERow) (C := 1) (f := fRow) (Q := QRow) (p := pRow) (by omega) (fun _ => rfl) h (fun _ _ _ hq => qrow_e hq)
theorem qcrt_e {l u : Nat} {w : World} {m : CrtM} (h : QCrt l u w m) : ECrt w (fCrt m) (pCrt m) := by
  obtain ⟨⟨ms, v⟩, ss, v2⟩ := m
  obtain ⟨k, h1, h2⟩ : ∃ k, OwnR 92 1 fRow QRow l k w v ms ∧ w.ownsRow k 100 3 v2 ss.length (ss.flatMap Sum.cells) := by
    obtain ⟨k, h1, h2, -⟩ := h
    exact ⟨k, h1, h2⟩
  clear h
  obtain ⟨a, c, rfl⟩ := owns_slice h1.1
  obtain ⟨a', c', rfl⟩ := owns_slice h2
  refine ⟨a, c, a', c', by simp [fCrt, pCrt, pSs], ?_, rdSum_of_own rfl h2, by simpa [pCrt, pSs] using owns_capR h1.1, owns_capR h2⟩
  have := qss_rd h1
  simpa [pCrt, pSs] using this
theorem certs_rd {l u n : Nat} {w : World} {a : Option Addr} {c : Nat} {ms : List CrtM} (h : OwnR 58 2 fCrt QCrt l u w (.slice a n c) ms) : RdL ECrt 2 w a n (ms.map pCrt) :=
  OwnR.rd (E := ECrt) (C := 2) (f := fCrt) (Q := QCrt) (p := pCrt) (by omega) (fun _ => rfl) h (fun _ _ _ hq => qcrt_e hq)
end Go.Proofs.YtdddhnepanjmfaaGreat
