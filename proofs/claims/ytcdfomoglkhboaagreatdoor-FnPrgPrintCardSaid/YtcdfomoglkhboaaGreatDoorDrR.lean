/- Lemmas and walks of this proof, some texts one behind the other. No condition. -/
import Derived.Test.YtcdfomoglkhboaaGreatDoorBase
import Derived.Outline
import Derived.Handy
import Derived.Test.YtcdfomoglkhboaaGreatDoorData
import Derived.Test.YtcdfomoglkhboaaGreatDoorDr
import Derived.Test.YtcdfomoglkhboaaGreatDoorRegion
set_option linter.unusedSimpArgs false
set_option linter.unusedVariables false
/- Contracts of the small functions on instructions. No condition. -/
namespace Go.Proofs.YtcdfomoglkhboaaGreatDoor
open Go.RowKit
set_option linter.unusedVariables false

theorem isVar (a : Int) (w : World) :
    Calls Tryz.prog 48 #[.int .i64 a] w fun e w' => e = .returned (.bool (decide (0 ≤ a) && decide (a < 4))) ∧ w = w' := by
  by_cases h1 : 0 ≤ a
  · go_enter Tryz.func48, Tryz.ntmps48
    go_wp2
    go_ret
    exact ⟨by simp [h1], rfl⟩
  · go_enter Tryz.func48, Tryz.ntmps48
    go_wp2
    go_ret
    exact ⟨by simp; omega, rfl⟩

theorem below (a b : Int) (w : World) :
    Calls Tryz.prog 51 #[.int .i64 a, .int .i64 b] w fun e w' => e = .returned (.bool (decide (0 ≤ a) && decide (a < b))) ∧ w = w' := by
  by_cases h1 : 0 ≤ a
  · go_enter Tryz.func51, Tryz.ntmps51
    go_wp2
    go_ret
    exact ⟨by simp [h1], rfl⟩
  · go_enter Tryz.func51, Tryz.ntmps51
    go_wp2
    go_ret
    exact ⟨by simp; omega, rfl⟩

theorem isRel (a : Int) (w : World) :
    Calls Tryz.prog 50 #[.int .i64 a] w fun e w' => e = .returned (.bool (decide (1 ≤ a) && decide (a ≤ 4))) ∧ w = w' := by
  by_cases h1 : 1 ≤ a
  · go_enter Tryz.func50, Tryz.ntmps50
    go_wp2
    go_ret
    exact ⟨by simp [h1], rfl⟩
  · go_enter Tryz.func50, Tryz.ntmps50
    go_wp2
    go_ret
    exact ⟨by simp; omega, rfl⟩

theorem l1In (a b c : Int) (w : World) :
    Calls Tryz.prog 30 #[.int .i64 a, .int .i64 b, .int .i64 c] w fun e w' => e = .returned (.bool (decide (b ≤ a) && decide (a ≤ c))) ∧ w = w' := by
  by_cases h1 : b ≤ a
  · go_enter Tryz.func30, Tryz.ntmps30
    go_wp2
    go_ret
    exact ⟨by simp [h1], rfl⟩
  · go_enter Tryz.func30, Tryz.ntmps30
    go_wp2
    go_ret
    exact ⟨by simp; omega, rfl⟩

theorem specNumOk (a : Int) (w : World) :
    Calls Tryz.prog 53 #[.int .i64 a] w fun e w' => e = .returned (.bool (decide (-32768 ≤ a) && decide (a ≤ 32767))) ∧ w = w' := by
  by_cases h1 : -32768 ≤ a
  · go_enter Tryz.func53, Tryz.ntmps53
    go_wp2
    go_ret
    exact ⟨by simp [h1], rfl⟩
  · go_enter Tryz.func53, Tryz.ntmps53
    go_wp2
    go_ret
    exact ⟨by simp; omega, rfl⟩

theorem implNumOk (a : Int) (w : World) :
    Calls Tryz.prog 32 #[.int .i64 a] w fun e w' => e = .returned (.bool (decide (-32768 ≤ a) && decide (a ≤ 32767))) ∧ w = w' := by
  by_cases h1 : -32768 ≤ a
  · go_enter Tryz.func32, Tryz.ntmps32
    go_wp2
    go_ret
    exact ⟨by simp [h1], rfl⟩
  · go_enter Tryz.func32, Tryz.ntmps32
    go_wp2
    go_ret
    exact ⟨by simp; omega, rfl⟩

/-- An instruction: its eight numbers. -/
structure Ins where
  (op d a b rel lo hi to : Int)
  deriving DecidableEq
abbrev Ins.v (i : Ins) : Value := .agg #[.int .i64 i.op, .int .i64 i.d, .int .i64 i.a, .int .i64 i.b, .int .i64 i.rel, .int .i64 i.lo, .int .i64 i.hi, .int .i64 i.to]

theorem insArith (op d a b : Int) (w : World) :
    Calls Tryz.prog 190 #[.agg #[.int .i64 op, .int .i64 d, .int .i64 a, .int .i64 b]] w fun e w' => e = .returned (Ins.v ⟨op, d, a, b, 0, 0, 0, 0⟩) ∧ Grew w w' := by
  go_enter Tryz.func190, Tryz.ntmps190
  go_wp2
  go_returns
  exact ⟨rfl, by unfold Grew; go_grown⟩

theorem insAny (d lo hi : Int) (w : World) :
    Calls Tryz.prog 179 #[.agg #[.int .i64 d, .int .i64 lo, .int .i64 hi]] w fun e w' => e = .returned (Ins.v ⟨5, d, 0, 0, 0, lo, hi, 0⟩) ∧ Grew w w' := by
  go_enter Tryz.func179, Tryz.ntmps179
  go_wp2
  go_returns
  exact ⟨rfl, by unfold Grew; go_grown⟩

theorem insLoad (d a : Int) (w : World) :
    Calls Tryz.prog 187 #[.agg #[.int .i64 d, .int .i64 a]] w fun e w' => e = .returned (Ins.v ⟨6, d, a, 0, 0, 0, 0, 0⟩) ∧ Grew w w' := by
  go_enter Tryz.func187, Tryz.ntmps187
  go_wp2
  go_returns
  exact ⟨rfl, by unfold Grew; go_grown⟩

theorem insStore (a b : Int) (w : World) :
    Calls Tryz.prog 188 #[.agg #[.int .i64 a, .int .i64 b]] w fun e w' => e = .returned (Ins.v ⟨7, 0, a, b, 0, 0, 0, 0⟩) ∧ Grew w w' := by
  go_enter Tryz.func188, Tryz.ntmps188
  go_wp2
  go_returns
  exact ⟨rfl, by unfold Grew; go_grown⟩

theorem insIf (rel a b to : Int) (w : World) :
    Calls Tryz.prog 180 #[.agg #[.int .i64 rel, .int .i64 a, .int .i64 b, .int .i64 to]] w fun e w' => e = .returned (Ins.v ⟨8, 0, a, b, rel, 0, 0, to⟩) ∧ Grew w w' := by
  go_enter Tryz.func180, Tryz.ntmps180
  go_wp2
  go_returns
  exact ⟨rfl, by unfold Grew; go_grown⟩

theorem insJump (to : Int) (w : World) :
    Calls Tryz.prog 181 #[.agg #[.int .i64 to]] w fun e w' => e = .returned (Ins.v ⟨9, 0, 0, 0, 0, 0, 0, to⟩) ∧ Grew w w' := by
  go_enter Tryz.func181, Tryz.ntmps181
  go_wp2
  go_returns
  exact ⟨rfl, by unfold Grew; go_grown⟩

theorem insCall (d a to : Int) (w : World) :
    Calls Tryz.prog 182 #[.agg #[.int .i64 d, .int .i64 a, .int .i64 to]] w fun e w' => e = .returned (Ins.v ⟨10, d, a, 0, 0, 0, 0, to⟩) ∧ Grew w w' := by
  go_enter Tryz.func182, Tryz.ntmps182
  go_wp2
  go_returns
  exact ⟨rfl, by unfold Grew; go_grown⟩

theorem insAssert (rel a b : Int) (w : World) :
    Calls Tryz.prog 183 #[.agg #[.int .i64 rel, .int .i64 a, .int .i64 b]] w fun e w' => e = .returned (Ins.v ⟨11, 0, a, b, rel, 0, 0, 0⟩) ∧ Grew w w' := by
  go_enter Tryz.func183, Tryz.ntmps183
  go_wp2
  go_returns
  exact ⟨rfl, by unfold Grew; go_grown⟩

theorem insRet (a : Int) (w : World) :
    Calls Tryz.prog 189 #[.agg #[.int .i64 a]] w fun e w' => e = .returned (Ins.v ⟨12, 0, a, 0, 0, 0, 0, 0⟩) ∧ Grew w w' := by
  go_enter Tryz.func189, Tryz.ntmps189
  go_wp2
  go_returns
  exact ⟨rfl, by unfold Grew; go_grown⟩

end Go.Proofs.YtcdfomoglkhboaaGreatDoor

/- Instructions and programs as data: how they lie in memory, how arguments of these types are opened. No condition. -/
namespace Go.Proofs.YtcdfomoglkhboaaGreatDoor
open Go.RowKit Go.ChangeShapes Go.WideShapes Go.Deep
set_option linter.unusedVariables false

def Ins.cells (i : Ins) : List Value := [.int .i64 i.op, .int .i64 i.d, .int .i64 i.a, .int .i64 i.b, .int .i64 i.rel, .int .i64 i.lo, .int .i64 i.hi, .int .i64 i.to]
def EIns : World → List Value → Ins → Prop := fun _ cs i => cs = i.cells
theorem stays_ins : Stays EIns := fun _ _ _ _ _ h => h

/-- A procedure; a program is a list of these. -/
structure Prc where
  lo : Int
  hi : Int
  code : List Ins
  deriving DecidableEq
def EPrc : World → List Value → Prc → Prop := fun w cs p =>
  ∃ a c, cs = [.int .i64 p.lo, .int .i64 p.hi, .slice a p.code.length c] ∧ RdL EIns 8 w a p.code.length p.code ∧ p.code.length ≤ c ∧ c ≤ maxLen
theorem stays_prc : Stays EPrc := fun w w' cs p hg ⟨a, c, h1, h2, h3⟩ => ⟨a, c, h1, h2.grew stays_ins hg, h3⟩
/-- A slice of procedures. -/
abbrev RdP (w : World) (a : Option Addr) (n : Nat) (ps : List Prc) : Prop := RdL EPrc 3 w a n ps
theorem RdP.grew {w w' : World} {a : Option Addr} {n : Nat} {ps : List Prc} (h : RdP w a n ps) (hg : Grew w w') : RdP w' a n ps := RdL.grew stays_prc h hg

section
variable {H : Type} {enc : TypeId × Value → H} {w : World} {base : Nat} {spare : Nat → Bool} {held : Bool}
end
end Go.Proofs.YtcdfomoglkhboaaGreatDoor

/- Regions that draw from a code: the rule, and its steps. No condition. -/
namespace Go.Proofs.YtcdfomoglkhboaaGreatDoor
open Go.RowKit
set_option linter.unusedVariables false

section
variable {P : Program} {ops : Array Oper} {Q : Exit → Act → World → Prop} {a0 : Act}
/-- One operation of a region that draws from reader g. -/
def DStep (P : Program) (ops : Array Oper) (Q : Exit → Act → World → Prop) (a0 : Act) (g PP : Nat) (c : Nat → Nat) (J : World → Prop) (F : Nat → Prop) (R : Nat → World → Value → Prop) (i : Nat) (o : Oper) : Prop :=
  ∀ (a : Act) (w : World) (p : Nat), p + c i ≤ PP → J w → RdLe w g p → (∀ d, (∀ i, dstOf ops i ≠ some d) → a.eval (.tmp d) = a0.eval (.tmp d)) →
    (∀ e, e ∈ o.after.toList → Region.binds .any e = true → ∀ d, dstOf ops e.on = some d → R e.on w (a.eval (.tmp d))) →
    o.wp P a w (fun a' w' => ∃ v, a' = a.put o.dst v ∧ R i w' v ∧ J w' ∧ RdLe w' g (p + c i) ∧ Chg F w w') Q
theorem region_draw {id : Nat} {w : World} (g p0 : Nat) (c : Nat → Nat) (J : World → Prop) (F : Nat → Prop) (R : Nat → World → Value → Prop) (hm : P.follows .mixedOrders = true) (hB : regB ops a0.tmps.size = true)
    (hJ : J w.drew) (hr : RdLe w g p0) (hF : ∀ j w w' u, Chg F w w' → R j w u → R j w' u)
    (hstep : AllSteps (DStep P ops Q a0 g (p0 + costAll c ops.size) c J F R) 0 ops.toList)
    (hend : ∀ (vs : Nat → Value) (w' : World), J w' → RdLe w' g (p0 + costAll c ops.size) → (∀ i d, dstOf ops i = some d → R i w' (vs i)) → Q .normal (putAll ops.toList vs 0 a0) w') : (Code.region id ops true).wp P Q a0 w := by
  refine wp_region_inv (fun L w' => J w' ∧ L.size = ops.size ∧ RdLe w' g (p0 + costL c L)) R hm hB ⟨hJ, by simp, ?_⟩ ?_ ?_
  · exact (rd_drew hr).mono (by omega)
  · intro i o ho L a w1 hL hi hf _ hI hfr hd
    obtain ⟨hJ1, _, hr1⟩ := hI
    have hs := allSteps_get _ _ hstep i o (by simpa using ho)
    rw [Nat.zero_add] at hs
    have hc := costL_set c L (i := i) (by omega) hf
    have hle := costL_le c (L.setIfInBounds i true)
    rw [Array.size_setIfInBounds, hL] at hle
    refine Oper.wp_mono ?_ (hs a w1 (p0 + costL c L) (by omega) hJ1 hr1 hfr (fun e he hb => (hd e he hb).2))
    rintro a' w' ⟨v, h1, h2, h3, h4, h5⟩
    exact ⟨v, h1, h2, ⟨h3, by simp [hL], by rw [hc]; exact h4.mono (by omega)⟩, fun j u _ hu => hF j _ _ u h5 hu⟩
  · rintro vs w' ⟨L, ⟨hJ', hL, hr'⟩, _⟩ hR
    have hle := costL_le c L
    rw [hL] at hle
    exact hend vs w' hJ' (hr'.mono (by omega)) hR

theorem op_val {o : Oper} {a : Act} {w w' : World} {K : Act → World → Prop} {v : Value} (h : (execOp a.eval o).run P w = .ok (.value v) w') (hK : K (a.put o.dst v) w') : o.wp P a w K Q := by
  unfold Oper.wp
  rw [h]
  exact hK
theorem op_skip {o : Oper} {a : Act} {w w' : World} {K : Act → World → Prop} (h : (execOp a.eval o).run P w = .ok .skip w') (hK : K (a.put o.dst undef) w') : o.wp P a w K Q := by
  unfold Oper.wp
  rw [h]
  exact hK
end
/-- A slice of numbers, a pointer to a number: in blocks that do not change. -/
def SlI (F : Nat → Prop) (n : Nat) (w : World) (v : Value) : Prop := ∃ b, v = .slice (some ⟨b, 0, none⟩) n n ∧ b < w.heap.size ∧ ¬ F b ∧ ∀ j, j < n → ∃ x, w.cell? ⟨b, j, none⟩ = some (.int .i64 x)
def PtI (F : Nat → Prop) (w : World) (v : Value) : Prop := ∃ b j x, v = .pointer (some ⟨b, j, none⟩) ∧ b < w.heap.size ∧ ¬ F b ∧ w.cell? ⟨b, j, none⟩ = some (.int .i64 x)
theorem SlI.chg {F : Nat → Prop} {n : Nat} {w w' : World} {v : Value} (h : SlI F n w v) (c : Chg F w w') : SlI F n w' v := by
  obtain ⟨b, h1, h2, h3, h4⟩ := h
  exact ⟨b, h1, Nat.lt_of_lt_of_le h2 c.size, h3, fun j hj => by rw [World.cell?_of_block (w := w) (w' := w') (a := ⟨b, j, none⟩) (c.block b h2 h3)]; exact h4 j hj⟩
theorem PtI.chg {F : Nat → Prop} {w w' : World} {v : Value} (h : PtI F w v) (c : Chg F w w') : PtI F w' v := by
  obtain ⟨b, j, x, h1, h2, h3, h4⟩ := h
  exact ⟨b, j, x, h1, Nat.lt_of_lt_of_le h2 c.size, h3, by rw [World.cell?_of_block (w := w) (w' := w') (a := ⟨b, j, none⟩) (c.block b h2 h3)]; exact h4⟩
end Go.Proofs.YtcdfomoglkhboaaGreatDoor
