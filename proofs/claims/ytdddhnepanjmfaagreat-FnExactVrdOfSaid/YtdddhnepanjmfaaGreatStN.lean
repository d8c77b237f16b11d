/- Lemmas and walks of this proof, some texts one behind the other. No condition. -/
import Derived.Test.YtdddhnepanjmfaaGreatReadS
import Derived.Test.YtdddhnepanjmfaaGreatBlk
import Derived.Test.YtdddhnepanjmfaaGreatKinds
import Derived.Test.YtdddhnepanjmfaaGreatDIns
import Derived.Test.YtdddhnepanjmfaaGreatSt
import Derived.Test.YtdddhnepanjmfaaGreatPrgOkI
set_option linter.unusedSimpArgs false
set_option linter.unusedVariables false
/- Boxes whose cells are known, and the marking of a procedure. No condition. -/
namespace Go.Proofs.YtdddhnepanjmfaaGreat
open Go.RowKit
set_option linter.unusedVariables false
attribute [local go_sem] ext_cell ext_frozen ext_lt ext_le ext_le1 lt_s2 lt_s3 lt_s4 lt_s5 lt_s6 ext_lt1 ext_lt2 ext_lt3

/-- A box: a block whose cells are known. -/
def Boxd (w : World) (b : Nat) (cs : Array Value) : Prop := b < w.heap.size ∧ ∀ (j : Nat) (u : Value), cs[j]? = some u → w.cell? ⟨b, j, none⟩ = some u
theorem Boxd.new (w : World) (t : TypeId) (cs : Array Value) : Boxd (w.alloc (.cells cs t)) w.heap.size cs := ⟨by simp, fun j u hu => by rw [World.cell?_alloc_new]; exact hu⟩
theorem Boxd.grew {w w' : World} {b : Nat} {cs : Array Value} (h : Boxd w b cs) (g : Grew w w') : Boxd w' b cs := ⟨Nat.lt_of_lt_of_le h.1 g.size, fun j u hu => (g.cell (p := ⟨b, j, none⟩) h.1).trans (h.2 j u hu)⟩
theorem Boxd.chg {F : Nat → Prop} {w w' : World} {b : Nat} {cs : Array Value} (h : Boxd w b cs) (c : Chg F w w') (hF : ¬ F b) : Boxd w' b cs :=
  ⟨Nat.lt_of_lt_of_le h.1 c.size, fun j u hu => (World.cell?_of_block (w := w) (w' := w') (a := ⟨b, j, none⟩) (c.block b h.1 hF)).trans (h.2 j u hu)⟩

end Go.Proofs.YtdddhnepanjmfaaGreat

/- What copies of programs are in memory. No condition. -/
namespace Go.Proofs.YtdddhnepanjmfaaGreat
open Go.RowKit
set_option linter.unusedVariables false

theorem prg_rd {w : World} {B n cap : Nat} {a : Option Addr} {ms : List (Prc × Value)} {ps : List Prc} (h : OwnP w B (.slice a n cap) n ms) (e : ms.map (·.1) = ps) : RdP w a n ps := by subst e; exact h.rd
end Go.Proofs.YtdddhnepanjmfaaGreat

/- The marking of a program. No condition. -/
namespace Go.Proofs.YtdddhnepanjmfaaGreat
open Go.RowKit
set_option linter.unusedVariables false
attribute [local go_sem] ext_cell ext_frozen ext_lt ext_le ext_le1 lt_s2 lt_s3 lt_s4 lt_s5 lt_s6 ext_lt1 ext_lt2 ext_lt3

theorem own_ne {w : World} {B B2 : Nat} {e e2 : TypeId} {s s2 n n2 : Nat} {v v2 : Value} {xs ys : List Value} (h : w.ownsRow B e s v n xs) (h2 : w.ownsRow B2 e2 s2 v2 n2 ys) (hne : e ≠ e2) {b : Nat} (hb : v.ownBlock = some b) : v2.ownBlock ≠ some b := by
  intro hb2
  rcases h.2 with ⟨rfl, _⟩ | ⟨g, cap, cur, rfl, _, h3, _⟩
  · cases hb
  rcases h2.2 with ⟨rfl, _⟩ | ⟨g', cap', cur', rfl, _, h4, _⟩
  · cases hb2
  simp only [Value.ownBlock, Option.some.injEq] at hb hb2
  subst hb hb2
  rw [h3] at h4
  simp only [Option.some.injEq, Obj.cells.injEq] at h4
  exact hne h4.2.1
theorem own_mark {w w' : World} {B : Nat} {e : TypeId} {s n n2 : Nat} {v v2 : Value} {xs ys zs : List Value} (h : w.ownsRow B e s v n xs) (o : w.ownsRow B e s v2 n2 ys) (o' : w'.ownsRow B e s v2 n2 zs) (c : Chg (fun b => v2.ownBlock = some b) w w') : ∃ xs', w'.ownsRow B e s v n xs' := by
  rcases h.2 with h0 | ⟨g, cap, cur, rfl, hg, h3, h4, h5, h6, h7⟩
  · exact ⟨xs, h.1, .inl h0⟩
  by_cases hb : v2.ownBlock = some g
  · rcases o.2 with ⟨rfl, _⟩ | ⟨g2, cap2, cur2, rfl, _, k3, k4, k5, k6, k7⟩
    · cases hb
    simp only [Value.ownBlock, Option.some.injEq] at hb
    subst hb
    rcases o'.2 with ⟨hx, _⟩ | ⟨g3, cap3, cur3, hx, _, l3, l4, l5, l6, l7⟩
    · simp at hx
    simp only [Value.slice.injEq, Option.some.injEq, Addr.mk.injEq, true_and] at hx
    obtain ⟨⟨rfl, -⟩, rfl⟩ := hx
    rw [h3] at k3
    simp only [Option.some.injEq, Obj.cells.injEq] at k3
    obtain ⟨rfl, -⟩ := k3
    refine ⟨cur3.toList.take (n * s), ?_, .inr ⟨_, cap, cur3, rfl, hg, l3, h4, h5, by rw [l6, ← k6, h6], rfl⟩⟩
    rw [List.length_take, Array.length_toList, l6, ← k6, h6]
    exact Nat.min_eq_left (Nat.mul_le_mul_right _ h4)
  · exact ⟨xs, owns_chg h c (fun b hb' => by simp only [Value.ownBlock, Option.some.injEq] at hb'; subst hb'; exact hb)⟩

/-- The blocks of a copy lie between. -/
def BlkP (B N : Nat) (v : Value) (ms : List (Prc × Value)) : Prop := ∀ b, (v.ownBlock = some b ∨ ∃ m, m ∈ ms ∧ m.2.ownBlock = some b) → B ≤ b ∧ b < N
theorem OwnP.blk {w : World} {B n : Nat} {v : Value} {ms : List (Prc × Value)} (h : OwnP w B v n ms) : BlkP B w.heap.size v ms := by
  rintro b (hb | ⟨m, hm, hb⟩)
  · exact h.2.1.lt b hb
  · exact (h.2.2 m hm).lt b hb
def MInv (w : World) (B N n cap : Nat) (a : Option Addr) (ms : List (Prc × Value)) (wr : World) : Prop :=
  Chg (fun b => B ≤ b ∧ b < N) w wr ∧ (∃ ys, wr.ownsRow B 95 3 (.slice a n cap) n ys ∧ ∀ k m, ms[k]? = some m → ys[k * 3 + 2]? = some m.2) ∧ ∀ m, m ∈ ms → ∃ xs, wr.ownsRow B 103 8 m.2 m.1.code.length xs
theorem prcCells_get : ∀ (ms : List (Prc × Value)) (k : Nat) (m : Prc × Value), ms[k]? = some m → (ms.flatMap prcCells)[k * 3 + 2]? = some m.2
  | [], k, m, h => by simp at h
  | x :: ms, 0, m, h => by
    simp only [List.getElem?_cons_zero, Option.some.injEq] at h
    subst h
    rfl
  | x :: ms, k + 1, m, h => by
    rw [List.getElem?_cons_succ] at h
    rw [List.flatMap_cons, List.getElem?_append_right (by rw [prc_len]; omega), prc_len, show (k + 1) * 3 + 2 - 3 = k * 3 + 2 from by omega]
    exact prcCells_get ms k m h

end Go.Proofs.YtdddhnepanjmfaaGreat

/- The beginning of a call. No condition. -/
namespace Go.Proofs.YtdddhnepanjmfaaGreat
open Go.RowKit
set_option linter.unusedVariables false
set_option linter.unusedSimpArgs false
attribute [local go_sem] ext_cell ext_frozen ext_lt ext_le ext_le1 lt_s2 lt_s3 lt_s4 lt_s5 lt_s6 ext_lt1 ext_lt2 ext_lt3

theorem Blk.new' {w : World} {t : TypeId} {cs : Array Value} {g : Nat} (h : g = w.heap.size) : Blk (w.alloc (.cells cs t)) g t cs := by subst h; exact Blk.new _ _ _
end Go.Proofs.YtdddhnepanjmfaaGreat

/- Runs as data: calls and their numbers; how arguments are opened to them. No condition. -/
namespace Go.Proofs.YtdddhnepanjmfaaGreat
open Go.RowKit Go.ChangeShapes Go.WideShapes Go.Deep
set_option linter.unusedVariables false

/-- A call. -/
structure Fr where
  proc : Int
  pc : Int
  vars : List Int
  cells : List Int
  deriving DecidableEq
def EFr : World → List Value → Fr → Prop := fun w cs f =>
  ∃ a c a' c', cs = [.int .i64 f.proc, .int .i64 f.pc, .slice a f.vars.length c, .slice a' f.cells.length c'] ∧ Rd w a f.vars.length 1 (ints .i64 f.vars) ∧ Rd w a' f.cells.length 1 (ints .i64 f.cells) ∧
    f.vars.length ≤ maxLen ∧ f.cells.length ≤ maxLen
theorem stays_fr : Stays EFr := fun w w' cs p hg ⟨a, c, a', c', h1, h2, h3, h4⟩ => ⟨a, c, a', c', h1, h2.grew hg, h3.grew hg, h4⟩
/-- A slice of calls. -/
abbrev RdF (w : World) (a : Option Addr) (n : Nat) (fs : List Fr) : Prop := RdL EFr 4 w a n fs
theorem RdF.grew {w w' : World} {a : Option Addr} {n : Nat} {fs : List Fr} (h : RdF w a n fs) (hg : Grew w w') : RdF w' a n fs := RdL.grew stays_fr h hg

section
variable {H : Type} {enc : TypeId × Value → H} {w : World} {base : Nat} {spare : Nat → Bool} {held : Bool}
end
end Go.Proofs.YtdddhnepanjmfaaGreat

/- The beginning of a run: the program. No condition. -/
namespace Go.Proofs.YtdddhnepanjmfaaGreat
open Go.RowKit
set_option linter.unusedVariables false
set_option linter.unusedSimpArgs false
attribute [local go_sem] ext_cell ext_frozen ext_lt ext_le ext_le1 lt_s2 lt_s3 lt_s4 lt_s5 lt_s6 ext_lt1 ext_lt2 ext_lt3

theorem implItvHas (lo hi x : Int) (w : World) (h : itvOkB lo hi = true) :
    Calls Tryz.prog 128 #[.agg #[.int .i64 lo, .int .i64 hi], .int .i64 x] w fun e w' => e = .returned (.bool (decide (lo ≤ x) && decide (x ≤ hi))) ∧ Grew w w' := by
  have C := fun w => itvOk lo hi w
  rw [h] at C
  have HC := Lib.hid C; clear C h
  by_cases h1 : lo ≤ x
  · have h1' : decide (lo ≤ x) = true := decide_eq_true h1
    rw [h1']
    go_enter Tryz.func128, Tryz.ntmps128
    go_wp2_with ((with_reducible refine (HC.out _).mono ?_); rintro e w' ⟨rfl, g'⟩; (first | obtain ⟨y, rfl⟩ := ext_cold g' | obtain ⟨y, rfl⟩ := ext_col g' | obtain ⟨y, rfl⟩ := ext_of g'); clear g')
    go_ret
    refine ⟨by simp, ?_⟩
    exact gr
  · have h1' : decide (lo ≤ x) = false := decide_eq_false h1
    rw [h1']
    go_enter Tryz.func128, Tryz.ntmps128
    go_wp2_with ((with_reducible refine (HC.out _).mono ?_); rintro e w' ⟨rfl, g'⟩; (first | obtain ⟨y, rfl⟩ := ext_cold g' | obtain ⟨y, rfl⟩ := ext_col g' | obtain ⟨y, rfl⟩ := ext_of g'); clear g')
    go_ret
    refine ⟨by simp, ?_⟩
    exact gr

end Go.Proofs.YtdddhnepanjmfaaGreat

/- AbsHas$1 and its search. No condition. -/
namespace Go.Proofs.YtdddhnepanjmfaaGreat
open Go.RowKit
set_option linter.unusedVariables false
attribute [local go_sem] ext_cell ext_frozen ext_lt ext_le ext_le1 lt_s2 lt_s3 lt_s4 lt_s5 lt_s6 ext_lt1 ext_lt2 ext_lt3

def inB (lo hi x : Int) : Bool := decide (lo ≤ x) && decide (x ≤ hi)
end Go.Proofs.YtdddhnepanjmfaaGreat

/- Whether a state has variables and cells: both sides. No condition. -/
namespace Go.Proofs.YtdddhnepanjmfaaGreat
open Go.RowKit
set_option linter.unusedVariables false
set_option linter.unusedSimpArgs false
attribute [local go_sem] ext_cell ext_frozen ext_lt ext_le ext_le1 lt_s2 lt_s3 lt_s4 lt_s5 lt_s6 ext_lt1 ext_lt2 ext_lt3

theorem wp_letH {P : Program} {c : Code} {Q : Exit → Act → World → Prop} {a : Act} {W : World} (h : ∀ E, E = W → c.wp P Q a E) : c.wp P Q a W := h W rfl
theorem specItvHas (lo hi x : Int) (w : World) :
    Calls Tryz.prog 78 #[.agg #[.int .i64 lo, .int .i64 hi], .int .i64 x] w fun e w' => e = .returned (.bool (itvOkB lo hi && inB lo hi x)) ∧ Grew w w' := by
  have C := fun w => specItvOk ⟨lo, hi⟩ w
  simp only at C
  have D := fun w => l1In x lo hi w
  obtain ⟨B, hB⟩ : ∃ B, itvOkB lo hi = B := ⟨_, rfl⟩
  rw [hB] at C
  rw [hB]
  have HC := Lib.hid C
  have HD := Lib.hid D
  clear C D hB
  cases B
  all_goals
    go_enter Tryz.func78, Tryz.ntmps78
    go_wp2_with (first | ((with_reducible refine (HC.out _).mono ?_); rintro e w' ⟨rfl, g'⟩; (first | obtain ⟨y, rfl⟩ := ext_cold g' | obtain ⟨y, rfl⟩ := ext_col g' | obtain ⟨y, rfl⟩ := ext_of g'); clear g') | ((with_reducible refine (HD.out _).mono ?_); rintro e w' ⟨rfl, rfl⟩))
    go_ret
    refine ⟨by simp [inB], ?_⟩
    exact gr
set_option maxHeartbeats 2000000 in
theorem specAbsOk (on : Bool) (a : Option Addr) (n c : Nat) (xs : List Itv) (lo hi : Int) (w : World) (hr : RdL EItv 2 w a n xs) (hn : n ≤ 9223372036854775807) :
    Calls Tryz.prog 74 #[.agg #[.bool on, .slice a n c, .int .i64 lo, .int .i64 hi]] w fun e w' => e = .returned (.bool (stOkB on xs lo hi)) ∧ Grew w w' := by
  have hl := hr.len
  cases on
  · have C := fun w => specL7None ⟨lo, hi⟩ w
    simp only at C
    have HC := Lib.hid C
    clear C
    by_cases hn0 : n = 0
    · have HV : Hid (stOkB false xs lo hi = (decide (lo = 0) && decide (hi = 0))) := Lib.hid (by
        have : xs = [] := List.eq_nil_of_length_eq_zero (by omega)
        subst this
        simp [stOkB])
      clear hr hl
      subst hn0
      go_enter Tryz.func74, Tryz.ntmps74
      go_wp2_with ((with_reducible refine (HC.out _).mono ?_); rintro e w' ⟨rfl, g'⟩; (first | obtain ⟨y, rfl⟩ := ext_cold g' | obtain ⟨y, rfl⟩ := ext_col g' | obtain ⟨y, rfl⟩ := ext_of g'); clear g')
      go_ret
      rw [HV.out]
      refine ⟨rfl, ?_⟩
      exact gr
    · have HV : Hid (stOkB false xs lo hi = false) := Lib.hid (by
        rw [stOkB, if_neg (by simp), decide_eq_false (show ¬ xs.length = 0 by omega)]
        rfl)
      have hn1 : ((n : Int) == 0) = false := by simp; omega
      have hn2 : (n == 0) = false := by simp; omega
      clear hr hl HC
      go_enter Tryz.func74, Tryz.ntmps74
      go_wp2
      go_ret
      rw [HV.out]
      refine ⟨rfl, ?_⟩
      exact gr
  · have HO := Lib.hid (fun x w => specItvOk x w)
    have C := fun w => specItvOk ⟨lo, hi⟩ w
    simp only at C
    obtain ⟨B1, hB1⟩ : ∃ B, itvOkB lo hi = B := ⟨_, rfl⟩
    rw [hB1] at C
    have HB1 := Lib.hid hB1
    have HC := Lib.hid C
    have HR := Lib.hid hr
    clear C hB1 hr
    by_cases h4 : n = 4
    · subst h4
      have HL := Lib.hid hl
      clear hl
      cases B1
      · have HV : Hid (stOkB true xs lo hi = false) := Lib.hid (by rw [stOkB, if_pos rfl, HB1.out]; simp)
        go_enter Tryz.func74, Tryz.ntmps74
        go_wp2_with ((with_reducible refine (HC.out _).mono ?_); rintro e w' ⟨rfl, g'⟩; (first | obtain ⟨y, rfl⟩ := ext_cold g' | obtain ⟨y, rfl⟩ := ext_col g' | obtain ⟨y, rfl⟩ := ext_of g'); clear g')
        go_ret
        rw [HV.out]
        refine ⟨rfl, ?_⟩
        exact gr
      · have HV : Hid (stOkB true xs lo hi = xs.all itvB) := Lib.hid (by rw [stOkB, if_pos rfl, HB1.out, HL.out]; simp)
        go_enter Tryz.func74, Tryz.ntmps74
        go_wp2_with ((with_reducible refine (HC.out _).mono ?_); rintro e w' ⟨rfl, g'⟩; (first | obtain ⟨y, rfl⟩ := ext_cold g' | obtain ⟨y, rfl⟩ := ext_col g' | obtain ⟨y, rfl⟩ := ext_of g'); clear g')
        refine wp_letH ?_
        intro E hE
        have GE : Grew w E := by rw [hE]; exact gr
        have q1 : E.cell? ⟨w.heap.size, 1, none⟩ = some (.slice a 4 c) := by rw [hE]; simp [go_sem]
        have l0 : w.heap.size < E.heap.size := by rw [hE]; have := ext_size _ y; simp only [World.size_alloc] at this; omega
        have HSO := Lib.hid (fun W (h : Grew E W) => (⟨(h.cell (p := ⟨w.heap.size, 1, none⟩) l0).trans q1, Nat.lt_of_lt_of_le l0 h.size⟩ : W.cell? ⟨w.heap.size, 1, none⟩ = some (.slice a 4 c) ∧ w.heap.size < W.heap.size))
        have HGE := Lib.hid GE
        clear hE q1 l0 GE HC
        go_loopw [3] (fun i wr => ∃ k : Nat, k ≤ 4 ∧ i = .int .i64 k ∧ Grew E wr ∧ ∀ x, x ∈ xs.take k → itvB x = true) (fun i _ => 4 - (intOf i).toNat)
        case atStart => exact ⟨0, Nat.zero_le _, rfl, Below.refl _ _, by simp⟩
        case round =>
          obtain ⟨k, hk, rfl, hg, hall⟩ := hrel
          obtain ⟨q1, l0⟩ := HSO.out _ hg
          have HG := Lib.hid hg
          have HA := Lib.hid hall
          clear hall
          by_cases hlt : k < 4
          · obtain ⟨b, off, xl, xh, rfl, hx, c0, c1, hb⟩ := rdItv_at (HR.out.grew staysItv (grew_tr HGE.out hg)) hlt
            have HX := Lib.hid hx
            have C := fun W => HO.out ⟨xl, xh⟩ W
            simp only at C
            clear hx hg
            cases hq : itvOkB xl xh
            · rw [hq] at C
              have HCk := Lib.hid C
              have HF : Hid (xs.all itvB = false) := Lib.hid (by rw [List.all_eq_false]; exact ⟨_, List.mem_of_getElem? HX.out, by simp [itvB, hq]⟩)
              clear C hq
              go_wp2_with ((with_reducible refine (HCk.out _).mono ?_); rintro e w' ⟨rfl, g'⟩; (first | obtain ⟨u, rfl⟩ := ext_cold g' | obtain ⟨u, rfl⟩ := ext_col g' | obtain ⟨u, rfl⟩ := ext_of g'); clear g')
              go_ret
              rw [HV.out, HF.out]
              refine ⟨rfl, ?_⟩
              have h1 := grew_tr HGE.out HG.out
              exact gr
            · rw [hq] at C
              have HCk := Lib.hid C
              have HQ := Lib.hid hq
              clear C hq
              go_wp2_with ((with_reducible refine (HCk.out _).mono ?_); rintro e w' ⟨rfl, g'⟩; (first | obtain ⟨u, rfl⟩ := ext_cold g' | obtain ⟨u, rfl⟩ := ext_col g' | obtain ⟨u, rfl⟩ := ext_of g'); clear g')
              have HG2 := Lib.hid (show Grew E (ext wr u) from grew_tr HG.out (gr))
              go_roundw
              case rel =>
                refine ⟨k + 1, by omega, by go_num, HG2.out, fun x hx => ?_⟩
                rw [take_get HX.out] at hx
                rcases List.mem_append.1 hx with hx | hx
                · exact HA.out x hx
                · rw [List.mem_singleton.1 hx]
                  exact HQ.out
              case measure => simp [intOf]; omega
          · obtain rfl : k = 4 := by omega
            have HF : Hid (xs.all itvB = true) := Lib.hid (by
              rw [List.all_eq_true]
              exact fun x hx => HA.out x (by rw [List.take_of_length_le (by rw [HL.out]; exact Nat.le_refl _)]; exact hx))
            clear hg
            go_wp2
            go_ret
            rw [HV.out, HF.out]
            exact ⟨rfl, grew_tr HGE.out HG.out⟩
    · have HV : Hid (stOkB true xs lo hi = false) := Lib.hid (by
        rw [stOkB, if_pos rfl, decide_eq_false (show ¬ xs.length = 4 by omega)]
        rfl)
      have hn1 : ((n : Int) != 4) = true := by simp; omega
      have hn2 : (n != 4) = true := by simp; omega
      clear hl
      go_enter Tryz.func74, Tryz.ntmps74
      go_wp2
      go_ret
      rw [HV.out]
      refine ⟨rfl, ?_⟩
      exact gr
end Go.Proofs.YtdddhnepanjmfaaGreat

/- Whether a state has variables and cells: the reference's side. No condition. -/
namespace Go.Proofs.YtdddhnepanjmfaaGreat
open Go.RowKit
set_option linter.unusedVariables false
set_option linter.unusedSimpArgs false
attribute [local go_sem] ext_cell ext_frozen ext_lt ext_le ext_le1 lt_s2 lt_s3 lt_s4 lt_s5 lt_s6 ext_lt1 ext_lt2 ext_lt3

theorem itvB_all {xs : List Itv} {lo hi : Int} (h : stOkB true xs lo hi = true) : ∀ x, x ∈ xs → itvB x = true := by
  obtain ⟨_, x0, x1, x2, x3, rfl, b0, b1, b2, b3⟩ := st_four h
  intro x hx
  simp only [List.mem_cons, List.not_mem_nil, or_false] at hx
  rcases hx with rfl | rfl | rfl | rfl <;> assumption
end Go.Proofs.YtdddhnepanjmfaaGreat

/- One state within another one: the program's side, for states that are ok. No condition. -/
namespace Go.Proofs.YtdddhnepanjmfaaGreat
open Go.RowKit
set_option linter.unusedVariables false
set_option linter.unusedSimpArgs false
attribute [local go_sem] ext_cell ext_frozen ext_lt ext_le ext_le1 lt_s2 lt_s3 lt_s4 lt_s5 lt_s6 ext_lt1 ext_lt2 ext_lt3

def inI (x y : Itv) : Bool := decide (y.lo ≤ x.lo) && decide (x.hi ≤ y.hi)
theorem implBothOk (a b : Itv) (w : World) (ha : itvB a = true) (hb : itvB b = true) :
    Calls Tryz.prog 161 #[.agg #[.int .i64 a.lo, .int .i64 a.hi], .agg #[.int .i64 b.lo, .int .i64 b.hi]] w fun e w' => e = .returned (.bool true) ∧ Grew w w' := by
  have C := fun w => itvOk a.lo a.hi w
  have D := fun w => itvOk b.lo b.hi w
  rw [itvB] at ha hb
  rw [ha] at C
  rw [hb] at D
  have HC := Lib.hid C
  have HD := Lib.hid D
  clear C D ha hb
  obtain ⟨al, ah⟩ := a
  obtain ⟨bl, bh⟩ := b
  simp only at HC HD ⊢
  go_enter Tryz.func161, Tryz.ntmps161
  go_wp2_with (first | ((with_reducible refine (HC.out _).mono ?_); rintro e w' ⟨rfl, g'⟩; (first | obtain ⟨y, rfl⟩ := ext_cold g' | obtain ⟨y, rfl⟩ := ext_col g' | obtain ⟨y, rfl⟩ := ext_of g'); clear g') | ((with_reducible refine (HD.out _).mono ?_); rintro e w' ⟨rfl, g'⟩; (first | obtain ⟨z, rfl⟩ := ext_cold g' | obtain ⟨z, rfl⟩ := ext_col g' | obtain ⟨z, rfl⟩ := ext_of g'); clear g'))
  go_ret
  refine ⟨by simp, ?_⟩
  exact gr
theorem implItvIn (a b : Itv) (w : World) (ha : itvB a = true) (hb : itvB b = true) :
    Calls Tryz.prog 129 #[.agg #[.int .i64 a.lo, .int .i64 a.hi], .agg #[.int .i64 b.lo, .int .i64 b.hi]] w fun e w' => e = .returned (.bool (inI a b)) ∧ Grew w w' := by
  have HC := Lib.hid (fun W => implBothOk a b W ha hb)
  clear ha hb
  obtain ⟨al, ah⟩ := a
  obtain ⟨bl, bh⟩ := b
  simp only at HC ⊢
  by_cases h1 : bl ≤ al
  · by_cases h2 : ah ≤ bh
    all_goals
      go_enter Tryz.func129, Tryz.ntmps129
      go_wp2_with ((with_reducible refine (HC.out _).mono ?_); rintro e w' ⟨rfl, g'⟩; (first | obtain ⟨y, rfl⟩ := ext_cold g' | obtain ⟨y, rfl⟩ := ext_col g' | obtain ⟨y, rfl⟩ := ext_of g'); clear g')
      go_ret
      refine ⟨by simp [inI, h1, h2], ?_⟩
      exact gr
  · go_enter Tryz.func129, Tryz.ntmps129
    go_wp2_with ((with_reducible refine (HC.out _).mono ?_); rintro e w' ⟨rfl, g'⟩; (first | obtain ⟨y, rfl⟩ := ext_cold g' | obtain ⟨y, rfl⟩ := ext_col g' | obtain ⟨y, rfl⟩ := ext_of g'); clear g')
    go_ret
    refine ⟨by (simp [inI]; omega), ?_⟩
    exact gr
/-- The cells of a state of four. -/
theorem st_cell {w : World} {b : Nat} {xs : List Itv} {lo hi : Int} (h : Blk w b 165 (stC xs lo hi)) (h4 : xs.length = 4) {k : Nat} {x : Itv} (hx : xs[k]? = some x) : w.cell? ⟨b, k * 2, none⟩ = some (.int .i64 x.lo) ∧ w.cell? ⟨b, k * 2 + 1, none⟩ = some (.int .i64 x.hi) := by
  match xs, h4 with
  | [x0, x1, x2, x3], _ =>
    match k, hx with
    | 0, hx => cases hx; exact ⟨h.cell 0, h.cell 1⟩
    | 1, hx => cases hx; exact ⟨h.cell 2, h.cell 3⟩
    | 2, hx => cases hx; exact ⟨h.cell 4, h.cell 5⟩
    | 3, hx => cases hx; exact ⟨h.cell 6, h.cell 7⟩
end Go.Proofs.YtdddhnepanjmfaaGreat
