/- Lemmas and walks of this proof, several texts one behind the other. No condition. -/
import Derived.Test.YtmcfengnihomcaaGreatP2
import Derived.Outline
import Derived.Shelf.Small.Bits
import Derived.Shelf.Strconv.Itoa0
import Derived.Shelf.Sort.Plain
import Derived.Ground.Names2Prog
import Derived.Shelf.Slices.CompactI
import Derived.Shelf.Slices.SearchI
import Derived.Shelf.Slices.Cells
import Derived.Shelf.Slices.In.SortNone
import Derived.Shelf.SlIterI.Sorted
import Derived.Ground.GgzProg
import Derived.Test.YtmcfengnihomcaaGreatProg
import Derived.Sort.OwnSortedInts
import Derived.Lib.RowBridge
import Derived.Test.YtmcfengnihomcaaGreatP1
import Derived.RangeFuncNested
import Derived.RangeFuncBound
import Derived.RangeFuncCalls
import Derived.RangeFuncLeaves
import Derived.Shelf.Abstract
import Derived.Shelf.RegionOpen
import Derived.OwnWalkIn
import Derived.TacticsInMore
import Derived.LoopNIn
import Derived.LoopIn
import Derived.Sort.LoopGhostIn
import Derived.Deep.RegionLaw
import Derived.Deep.RegionHeld3
set_option linter.unusedSimpArgs false
set_option linter.unusedVariables false
/- Contract of the program's PrgOk. No condition. -/
namespace Go.Proofs.YtmcfengnihomcaaGreat
open Go.RowKit
set_option linter.unusedVariables false
attribute [local go_sem] ext_cell ext_frozen ext_lt ext_le ext_le1 lt_s2 lt_s3 lt_s4 lt_s5 lt_s6 ext_lt1 ext_lt2 ext_lt3

theorem any_not {α : Type} (f : α → Bool) (l : List α) : l.any (fun i => !f i) = !l.all f := by
  induction l with
  | nil => rfl
  | cons x xs ih => rw [List.any_cons, List.all_cons, ih, Bool.not_and]

theorem prcItv (lo hi : Int) (v : Value) (w : World) :
    Calls Tryz.prog 49 #[.agg #[.int .i64 lo, .int .i64 hi, v]] w fun e w' => e = .returned (.agg #[.int .i64 lo, .int .i64 hi]) ∧ Grew w w' := by
  go_enter Tryz.func49, Tryz.ntmps49
  go_wp2
  go_returns
  exact ⟨rfl, by unfold Grew; go_grown⟩

theorem implEnds (i : Ins) (w : World) :
    Calls Tryz.prog 50 #[i.v] w fun e w' => e = .returned (.bool (endsB i)) ∧ Grew w w' := by
  obtain ⟨op, d, a, b, rel, lo, hi, to⟩ := i
  go_enter Tryz.func50, Tryz.ntmps50
  go_wp2
  all_goals
    go_ret
    refine ⟨by go_light; by_cases h12 : op = 12 <;> by_cases h9' : op = 9 <;> simp_all [endsB], ?_⟩
    repeat (first | with_reducible exact Below.refl _ _ | with_reducible assumption | with_reducible apply grew_ext | with_reducible apply grew_al | with_reducible apply grew_dn | with_reducible apply grew_d | (with_reducible refine grew_set ?_ (by first | omega | (repeat (first | with_reducible exact Nat.le_refl _ | with_reducible apply le_pl | with_reducible apply le_ext | with_reducible apply le_al))) _))

theorem prgOkF1 (i : Ins) (bp bs n cap : Nat) (a : Option Addr) (size : Int) (w : World) (hp : w.cell? ⟨bp, 0, none⟩ = some (.slice a n cap)) (hs : w.cell? ⟨bs, 0, none⟩ = some (.int .i64 size)) (hbp : bp < w.heap.size) (hbs : bs < w.heap.size) :
    Calls Tryz.prog 52 #[i.v, .pointer (some ⟨bp, 0, none⟩), .pointer (some ⟨bs, 0, none⟩)] w fun e w' => e = .returned (.bool (!insOkB i n size)) ∧ Grew w w' := by
  obtain ⟨op, d, a, b, rel, lo, hi, to⟩ := i
  have C := fun w => implInsOk ⟨op, d, a, b, rel, lo, hi, to⟩ n size w
  obtain ⟨B, hB⟩ : ∃ B, insOkB ⟨op, d, a, b, rel, lo, hi, to⟩ n size = B := ⟨_, rfl⟩
  rw [hB] at C ⊢
  have HC := Lib.hid C; clear C hB
  go_enter Tryz.func52, Tryz.ntmps52
  go_wp2_with ((with_reducible refine (HC.out _).mono ?_); rintro e w' ⟨rfl, g'⟩; (first | obtain ⟨x, rfl⟩ := ext_cold g' | obtain ⟨x, rfl⟩ := ext_col g' | obtain ⟨x, rfl⟩ := ext_of g'); clear g')
  go_ret
  refine ⟨rfl, ?_⟩
  repeat (first | with_reducible exact Below.refl _ _ | with_reducible assumption | with_reducible apply grew_ext | with_reducible apply grew_al | with_reducible apply grew_dn | with_reducible apply grew_d | (with_reducible refine grew_set ?_ (by first | omega | (repeat (first | with_reducible exact Nat.le_refl _ | with_reducible apply le_pl | with_reducible apply le_ext | with_reducible apply le_al))) _))

/-- Where the first is that is so; -1, if none is. -/
def RetIdx {α : Type} (p : α → Bool) (xs : List α) (w : World) (e : Ending) (w' : World) : Prop := ∃ z : Int, e = .returned (.int .i64 z) ∧ decide (0 ≤ z) = xs.any p ∧ Grew w w'

set_option maxHeartbeats 1000000 in
theorem indexFuncIns (a : Option Addr) (n cap : Nat) (is : List Ins) (bp bs pn pcap : Nat) (pa : Option Addr) (size : Int) (w : World) (hr : RdL EIns 8 w a n is) (hn : n ≤ 9223372036854775807)
    (hp : w.cell? ⟨bp, 0, none⟩ = some (.slice pa pn pcap)) (hs : w.cell? ⟨bs, 0, none⟩ = some (.int .i64 size)) (hbp : bp < w.heap.size) (hbs : bs < w.heap.size) :
    Calls Tryz.prog 67 #[.slice a n cap, .func (.func 52) #[] #[.pointer (some ⟨bp, 0, none⟩), .pointer (some ⟨bs, 0, none⟩)]] w (RetIdx (fun i => !insOkB i pn size) is w) := by
  have HL := Lib.hid hr.len
  have HR := Lib.hid hr; clear hr
  have HP := Lib.hid hp; clear hp
  have HS := Lib.hid hs; clear hs
  go_enter Tryz.func67, Tryz.ntmps67
  go_wp2
  go_loopw [8] (fun i wr => ∃ k : Nat, k ≤ n ∧ i = .int .i64 k ∧ (∃ x, wr = ext w x) ∧ ∀ i, i ∈ is.take k → insOkB i pn size = true) (fun i _ => n - (Go.RowKit.intOf i).toNat)
  case atStart => exact ⟨0, Nat.zero_le _, rfl, ext_of (Below.refl _ _), by simp⟩
  case round =>
    obtain ⟨k, hk, rfl, ⟨x, rfl⟩, hall⟩ := hrel
    have HA := Lib.hid hall; clear hall
    by_cases hlt : k < n
    · obtain ⟨b, off, op, d, ia, ib, rel, lo', hi', to, rfl, hx, c0, c1, c2, c3, c4, c5, c6, c7, hb⟩ := rdI_at (HR.out.grew stays_ins (ext_grew w x)) hlt
      have HX := Lib.hid hx; clear hx
      have C := prgOkF1 ⟨op, d, ia, ib, rel, lo', hi', to⟩ bp bs pn pcap pa size (ext w x) (by rw [ext_cell _ _ _ hbp]; exact HP.out) (by rw [ext_cell _ _ _ hbs]; exact HS.out) (ext_lt _ _ _ hbp) (ext_lt _ _ _ hbs)
      cases hq : insOkB ⟨op, d, ia, ib, rel, lo', hi', to⟩ pn size
      · rw [hq] at C
        have HC := Lib.hid C; clear C
        have HQ := Lib.hid hq; clear hq
        go_wp2_with ((with_reducible refine (HC.out).mono ?_); rintro e w' ⟨rfl, g'⟩; (first | obtain ⟨y, rfl⟩ := ext_cold g' | obtain ⟨y, rfl⟩ := ext_col g' | obtain ⟨y, rfl⟩ := ext_of g'); clear g')
        go_ret
        refine ⟨k, rfl, ?_, by repeat (first | with_reducible exact Below.refl _ _ | with_reducible assumption | with_reducible apply grew_ext | with_reducible apply grew_al | with_reducible apply grew_dn | with_reducible apply grew_d | (with_reducible refine grew_set ?_ (by first | omega | (repeat (first | with_reducible exact Nat.le_refl _ | with_reducible apply le_pl | with_reducible apply le_ext | with_reducible apply le_al))) _))⟩
        rw [decide_eq_true (by omega), eq_comm, List.any_eq_true]
        exact ⟨_, List.mem_of_getElem? HX.out, by simp [HQ.out]⟩
      · rw [hq] at C
        have HC := Lib.hid C; clear C
        have HQ := Lib.hid hq; clear hq
        go_wp2_with ((with_reducible refine (HC.out).mono ?_); rintro e w' ⟨rfl, g'⟩; (first | obtain ⟨y, rfl⟩ := ext_cold g' | obtain ⟨y, rfl⟩ := ext_col g' | obtain ⟨y, rfl⟩ := ext_of g'); clear g')
        go_roundw
        case rel =>
          refine ⟨k + 1, by omega, by go_num, ext_of (by repeat (first | with_reducible exact Below.refl _ _ | with_reducible assumption | with_reducible apply grew_ext | with_reducible apply grew_al | with_reducible apply grew_dn | with_reducible apply grew_d | (with_reducible refine grew_set ?_ (by first | omega | (repeat (first | with_reducible exact Nat.le_refl _ | with_reducible apply le_pl | with_reducible apply le_ext | with_reducible apply le_al))) _))), fun i hi => ?_⟩
          rw [take_get HX.out] at hi
          rcases List.mem_append.1 hi with hi | hi
          · exact HA.out i hi
          · obtain rfl := List.mem_singleton.1 hi
            exact HQ.out
        case measure => simp [Go.RowKit.intOf]; omega
    · go_wp2
      go_ret
      refine ⟨-1, rfl, ?_, by repeat (first | with_reducible exact Below.refl _ _ | with_reducible assumption | with_reducible apply grew_ext | with_reducible apply grew_al | with_reducible apply grew_dn | with_reducible apply grew_d | (with_reducible refine grew_set ?_ (by first | omega | (repeat (first | with_reducible exact Nat.le_refl _ | with_reducible apply le_pl | with_reducible apply le_ext | with_reducible apply le_al))) _))⟩
      rw [eq_comm]
      show is.any _ = false
      rw [List.any_eq_false]
      intro i hi
      have := HA.out i (by rw [List.take_of_length_le (by have := HL.out; omega)]; exact hi)
      simp [this]

theorem containsFuncIns (a : Option Addr) (n cap : Nat) (is : List Ins) (bp bs pn pcap : Nat) (pa : Option Addr) (size : Int) (w : World) (hr : RdL EIns 8 w a n is) (hn : n ≤ 9223372036854775807)
    (hp : w.cell? ⟨bp, 0, none⟩ = some (.slice pa pn pcap)) (hs : w.cell? ⟨bs, 0, none⟩ = some (.int .i64 size)) (hbp : bp < w.heap.size) (hbs : bs < w.heap.size) :
    Calls Tryz.prog 51 #[.slice a n cap, .func (.func 52) #[] #[.pointer (some ⟨bp, 0, none⟩), .pointer (some ⟨bs, 0, none⟩)]] w fun e w' => e = .returned (.bool (is.any (fun i => !insOkB i pn size))) ∧ Grew w w' := by
  have C := Lib.hid (indexFuncIns a n cap is bp bs pn pcap pa size w hr hn hp hs hbp hbs)
  clear hr hp hs
  go_enter Tryz.func51, Tryz.ntmps51
  go_wp2_with fail
  refine C.out.mono ?_
  rintro e w1 ⟨z, rfl, hz, g1⟩
  have HZ := Lib.hid hz; clear hz
  have HG := Lib.hid g1; clear g1
  go_wp2
  go_ret
  exact ⟨by rw [← HZ.out]; rfl, HG.out⟩

set_option maxHeartbeats 4000000 in
theorem implPrgOk (a : Option Addr) (n cap : Nat) (ps : List Prc) (w : World) (hr : RdP w a n ps) (hn : n ≤ 9223372036854775807) :
    Calls Tryz.prog 33 #[.agg #[.slice a n cap]] w fun e w' => e = .returned (.bool (prgOkB ps)) ∧ Grew w w' := by
  have HL := Lib.hid hr.len
  have HR := Lib.hid hr; clear hr
  by_cases hh : 1 ≤ n ∧ n ≤ 4
  · obtain ⟨h6, h7⟩ := hh
    have HH : Hid (prgOkB ps = ps.all (fun p => prcOkB p n)) := Lib.hid (by
      have := HL.out
      simp [prgOkB, this, h6, h7])
    have h8 : ¬ (n : Int) < 1 := by omega
    have h9 : ¬ (4 : Int) < (n : Int) := by omega
    go_enter Tryz.func33, Tryz.ntmps33
    go_wp2
    go_loopw [19] (fun i wr => ∃ k : Nat, k ≤ n ∧ i = .int .i64 k ∧ (∃ x, wr = ext (w.alloc (.cells #[.slice a n cap] 30)) x) ∧ ∀ p, p ∈ ps.take k → prcOkB p n = true) (fun i _ => n - (Go.RowKit.intOf i).toNat)
    case atStart => exact ⟨0, Nat.zero_le _, rfl, ext_of (Below.refl _ _), by simp⟩
    case round =>
      obtain ⟨k, hk, rfl, ⟨x, rfl⟩, hall⟩ := hrel
      have HA := Lib.hid hall; clear hall
      have HG : Hid (Grew w (ext (w.alloc (.cells #[.slice a n cap] 30)) x)) := Lib.hid (by repeat (first | with_reducible exact Below.refl _ _ | with_reducible assumption | with_reducible apply grew_ext | with_reducible apply grew_al | with_reducible apply grew_dn | with_reducible apply grew_d | (with_reducible refine grew_set ?_ (by first | omega | (repeat (first | with_reducible exact Nat.le_refl _ | with_reducible apply le_pl | with_reducible apply le_ext | with_reducible apply le_al))) _)))
      by_cases hlt : k < n
      · obtain ⟨b, off, lo, hi, is, ia, ic, rfl, hx, c0, c1, c2, hb, hi1, hi2, hi3⟩ := rdP_at (HR.out.grew HG.out) hlt
        have HX := Lib.hid hx; clear hx
        unfold maxLen at hi3
        have HI := Lib.hid hi1; clear hi1
        have hlen : is.length ≤ 9223372036854775807 := by omega
        clear hi2 hi3
        have CI := Lib.hid (fun w => prcItv lo hi (.slice ia is.length ic) w)
        have CO := fun w => itvOk lo hi w
        have hfalse : prcOkB ⟨lo, hi, is⟩ n = false → prgOkB ps = false := fun h => by
          rw [HH.out, List.all_eq_false]
          exact ⟨_, List.mem_of_getElem? HX.out, by simp [h]⟩
        have HF := Lib.hid hfalse; clear hfalse
        cases hq : itvOkB lo hi
        · have HQ := Lib.hid (HF.out (by simp [prcOkB, hq]))
          rw [hq] at CO
          have HCO := Lib.hid CO; clear CO hq
          go_wp2_with (first | ((with_reducible refine (CI.out _).mono ?_); rintro e w' ⟨rfl, g'⟩; (first | obtain ⟨y, rfl⟩ := ext_cold g' | obtain ⟨y, rfl⟩ := ext_col g' | obtain ⟨y, rfl⟩ := ext_of g'); clear g') | ((with_reducible refine (HCO.out _).mono ?_); rintro e w' ⟨rfl, g'⟩; (first | obtain ⟨z, rfl⟩ := ext_cold g' | obtain ⟨z, rfl⟩ := ext_col g' | obtain ⟨z, rfl⟩ := ext_of g'); clear g'))
          go_ret
          refine ⟨by rw [HQ.out]; rfl, ?_⟩
          repeat (first | with_reducible exact Below.refl _ _ | with_reducible assumption | with_reducible apply grew_ext | with_reducible apply grew_al | with_reducible apply grew_dn | with_reducible apply grew_d | (with_reducible refine grew_set ?_ (by first | omega | (repeat (first | with_reducible exact Nat.le_refl _ | with_reducible apply le_pl | with_reducible apply le_ext | with_reducible apply le_al))) _))
        rw [hq] at CO
        have HCO := Lib.hid CO; clear CO
        by_cases hl : 1 ≤ is.length ∧ is.length ≤ 10
        · obtain ⟨h1, h2⟩ := hl
          have h1' : ¬ (is.length : Int) < 1 := by omega
          have h2' : ¬ (10 : Int) < (is.length : Int) := by omega
          have HP : Hid (prcOkB ⟨lo, hi, is⟩ n = (is.all (fun i => insOkB i n is.length) && lastB is)) := Lib.hid (by simp [prcOkB, hq, h1, h2])
          clear hq
          have HIx := HI.out.grew stays_ins (Below.refl _ _)
          obtain ⟨b', off', op', d', ia', ib', rel', lo', hi', to', rfl, hx', c0', c1', c2', c3', c4', c5', c6', c7', hb'⟩ := rdI_at HIx (k := is.length - 1) (by omega)
          clear HIx
          obtain ⟨q0, q1, q2⟩ := lt3 hb'
          have HLB : Hid (lastB is = endsB ⟨op', d', ia', ib', rel', lo', hi', to'⟩) := Lib.hid (lastB_of (m := is.length - 1) (by omega) hx')
          clear hx'
          have CE := fun w => implEnds ⟨op', d', ia', ib', rel', lo', hi', to'⟩ w
          cases he : endsB ⟨op', d', ia', ib', rel', lo', hi', to'⟩
          · rw [he] at CE
            have HQ := Lib.hid (HF.out (by rw [HP.out, HLB.out, he, Bool.and_false]))
            have HCE := Lib.hid CE; clear CE he
            go_wp2_with (first | ((with_reducible refine (CI.out _).mono ?_); rintro e w' ⟨rfl, g'⟩; (first | obtain ⟨y, rfl⟩ := ext_cold g' | obtain ⟨y, rfl⟩ := ext_col g' | obtain ⟨y, rfl⟩ := ext_of g'); clear g') | ((with_reducible refine (HCO.out _).mono ?_); rintro e w' ⟨rfl, g'⟩; (first | obtain ⟨z, rfl⟩ := ext_cold g' | obtain ⟨z, rfl⟩ := ext_col g' | obtain ⟨z, rfl⟩ := ext_of g'); clear g') | ((with_reducible refine (HCE.out _).mono ?_); rintro e w' ⟨rfl, g'⟩; (first | obtain ⟨u, rfl⟩ := ext_cold g' | obtain ⟨u, rfl⟩ := ext_col g' | obtain ⟨u, rfl⟩ := ext_of g'); clear g'))
            go_ret
            refine ⟨by rw [HQ.out]; rfl, ?_⟩
            repeat (first | with_reducible exact Below.refl _ _ | with_reducible assumption | with_reducible apply grew_ext | with_reducible apply grew_al | with_reducible apply grew_dn | with_reducible apply grew_d | (with_reducible refine grew_set ?_ (by first | omega | (repeat (first | with_reducible exact Nat.le_refl _ | with_reducible apply le_pl | with_reducible apply le_ext | with_reducible apply le_al))) _))
          · rw [he] at CE
            have HP2 : Hid (prcOkB ⟨lo, hi, is⟩ n = is.all (fun i => insOkB i n is.length)) := Lib.hid (by rw [HP.out, HLB.out, he, Bool.and_true])
            have HCE := Lib.hid CE; clear CE he
            go_wp2_with (first | ((with_reducible refine (CI.out _).mono ?_); rintro e w' ⟨rfl, g'⟩; (first | obtain ⟨y, rfl⟩ := ext_cold g' | obtain ⟨y, rfl⟩ := ext_col g' | obtain ⟨y, rfl⟩ := ext_of g'); clear g') | ((with_reducible refine (HCO.out _).mono ?_); rintro e w' ⟨rfl, g'⟩; (first | obtain ⟨z, rfl⟩ := ext_cold g' | obtain ⟨z, rfl⟩ := ext_col g' | obtain ⟨z, rfl⟩ := ext_of g'); clear g') | ((with_reducible refine (HCE.out _).mono ?_); rintro e w' ⟨rfl, g'⟩; (first | obtain ⟨u, rfl⟩ := ext_cold g' | obtain ⟨u, rfl⟩ := ext_col g' | obtain ⟨u, rfl⟩ := ext_of g'); clear g'))
            have HP3 : Hid (is.any (fun i => !insOkB i n is.length) = !prcOkB ⟨lo, hi, is⟩ n) := Lib.hid (by rw [HP2.out]; exact any_not _ _)
            have s1 := ext_size (w.alloc (.cells #[.slice (some ⟨b, off, none⟩) n cap] 30)) x
            have s2 := ext_size _ u
            simp only [World.size_alloc] at s1 s2
            refine (containsFuncIns _ _ ic is _ _ n cap (some ⟨b, off, none⟩) is.length _ (HI.out.grew stays_ins (by repeat (first | with_reducible exact Below.refl _ _ | with_reducible assumption | with_reducible apply grew_ext | with_reducible apply grew_al | with_reducible apply grew_dn | with_reducible apply grew_d | (with_reducible refine grew_set ?_ (by first | omega | (repeat (first | with_reducible exact Nat.le_refl _ | with_reducible apply le_pl | with_reducible apply le_ext | with_reducible apply le_al))) _)))) hlen (by simp [go_sem]) (by simp [go_sem]) (by omega) (by omega)).mono ?_
            rintro e w2 ⟨rfl, g2⟩
            obtain ⟨v, rfl⟩ := ext_col g2
            clear g2 s1 s2
            rw [HP3.out]
            cases hq2 : prcOkB ⟨lo, hi, is⟩ n
            · have HQ := Lib.hid (HF.out hq2)
              clear hq2
              go_wp2
              go_ret
              refine ⟨by rw [HQ.out]; rfl, ?_⟩
              repeat (first | with_reducible exact Below.refl _ _ | with_reducible assumption | with_reducible apply grew_ext | with_reducible apply grew_al | with_reducible apply grew_dn | with_reducible apply grew_d | (with_reducible refine grew_set ?_ (by first | omega | (repeat (first | with_reducible exact Nat.le_refl _ | with_reducible apply le_pl | with_reducible apply le_ext | with_reducible apply le_al))) _))
            · have HQ := Lib.hid hq2
              clear hq2
              go_wp2
              go_roundw
              case rel =>
                refine ⟨k + 1, by omega, by go_num, ext_of (by repeat (first | with_reducible exact Below.refl _ _ | with_reducible assumption | with_reducible apply grew_ext | with_reducible apply grew_al | with_reducible apply grew_dn | with_reducible apply grew_d | (with_reducible refine grew_set ?_ (by first | omega | (repeat (first | with_reducible exact Nat.le_refl _ | with_reducible apply le_pl | with_reducible apply le_ext | with_reducible apply le_al))) _))), fun p hp => ?_⟩
                rw [take_get HX.out] at hp
                rcases List.mem_append.1 hp with hp | hp
                · exact HA.out p hp
                · obtain rfl := List.mem_singleton.1 hp
                  exact HQ.out
              case measure => simp [Go.RowKit.intOf]; omega
        · have HQ := Lib.hid (HF.out (by
            rw [Bool.eq_false_iff]
            intro h
            simp only [prcOkB, Bool.and_eq_true, decide_eq_true_eq] at h
            exact hl h.1.1.2))
          clear hq
          by_cases hl1 : is.length < 1
          · have h1' : (is.length : Int) < 1 := by omega
            clear hl
            go_wp2_with (first | ((with_reducible refine (CI.out _).mono ?_); rintro e w' ⟨rfl, g'⟩; (first | obtain ⟨y, rfl⟩ := ext_cold g' | obtain ⟨y, rfl⟩ := ext_col g' | obtain ⟨y, rfl⟩ := ext_of g'); clear g') | ((with_reducible refine (HCO.out _).mono ?_); rintro e w' ⟨rfl, g'⟩; (first | obtain ⟨z, rfl⟩ := ext_cold g' | obtain ⟨z, rfl⟩ := ext_col g' | obtain ⟨z, rfl⟩ := ext_of g'); clear g'))
            go_ret
            refine ⟨by rw [HQ.out]; rfl, ?_⟩
            repeat (first | with_reducible exact Below.refl _ _ | with_reducible assumption | with_reducible apply grew_ext | with_reducible apply grew_al | with_reducible apply grew_dn | with_reducible apply grew_d | (with_reducible refine grew_set ?_ (by first | omega | (repeat (first | with_reducible exact Nat.le_refl _ | with_reducible apply le_pl | with_reducible apply le_ext | with_reducible apply le_al))) _))
          · have h1' : ¬ (is.length : Int) < 1 := by omega
            have h2' : (10 : Int) < (is.length : Int) := by omega
            clear hl
            go_wp2_with (first | ((with_reducible refine (CI.out _).mono ?_); rintro e w' ⟨rfl, g'⟩; (first | obtain ⟨y, rfl⟩ := ext_cold g' | obtain ⟨y, rfl⟩ := ext_col g' | obtain ⟨y, rfl⟩ := ext_of g'); clear g') | ((with_reducible refine (HCO.out _).mono ?_); rintro e w' ⟨rfl, g'⟩; (first | obtain ⟨z, rfl⟩ := ext_cold g' | obtain ⟨z, rfl⟩ := ext_col g' | obtain ⟨z, rfl⟩ := ext_of g'); clear g'))
            go_ret
            refine ⟨by rw [HQ.out]; rfl, ?_⟩
            repeat (first | with_reducible exact Below.refl _ _ | with_reducible assumption | with_reducible apply grew_ext | with_reducible apply grew_al | with_reducible apply grew_dn | with_reducible apply grew_d | (with_reducible refine grew_set ?_ (by first | omega | (repeat (first | with_reducible exact Nat.le_refl _ | with_reducible apply le_pl | with_reducible apply le_ext | with_reducible apply le_al))) _))
      · have hall : ps.all (fun p => prcOkB p n) = true := by
          rw [List.all_eq_true]
          intro p hp
          exact HA.out p (by rw [List.take_of_length_le (by have := HL.out; omega)]; exact hp)
        have HF := Lib.hid hall; clear hall
        go_wp2
        go_ret
        refine ⟨by rw [HH.out, HF.out]; rfl, ?_⟩
        repeat (first | with_reducible exact Below.refl _ _ | with_reducible assumption | with_reducible apply grew_ext | with_reducible apply grew_al | with_reducible apply grew_dn | with_reducible apply grew_d | (with_reducible refine grew_set ?_ (by first | omega | (repeat (first | with_reducible exact Nat.le_refl _ | with_reducible apply le_pl | with_reducible apply le_ext | with_reducible apply le_al))) _))
  · have HF : Hid (prgOkB ps = false) := Lib.hid (by
      have h1 := HL.out
      rw [Bool.eq_false_iff]
      intro h
      simp only [prgOkB, Bool.and_eq_true, decide_eq_true_eq, h1] at h
      exact hh h.1)
    by_cases h1 : n < 1
    · have h2 : (n : Int) < 1 := by omega
      clear hh
      go_enter Tryz.func33, Tryz.ntmps33
      go_wp2
      go_ret
      refine ⟨by rw [HF.out]; rfl, ?_⟩
      repeat (first | with_reducible exact Below.refl _ _ | with_reducible assumption | with_reducible apply grew_ext | with_reducible apply grew_al | with_reducible apply grew_dn | with_reducible apply grew_d | (with_reducible refine grew_set ?_ (by first | omega | (repeat (first | with_reducible exact Nat.le_refl _ | with_reducible apply le_pl | with_reducible apply le_ext | with_reducible apply le_al))) _))
    · have h2 : ¬ (n : Int) < 1 := by omega
      have h3 : (4 : Int) < (n : Int) := by omega
      clear hh
      go_enter Tryz.func33, Tryz.ntmps33
      go_wp2
      go_ret
      refine ⟨by rw [HF.out]; rfl, ?_⟩
      repeat (first | with_reducible exact Below.refl _ _ | with_reducible assumption | with_reducible apply grew_ext | with_reducible apply grew_al | with_reducible apply grew_dn | with_reducible apply grew_d | (with_reducible refine grew_set ?_ (by first | omega | (repeat (first | with_reducible exact Nat.le_refl _ | with_reducible apply le_pl | with_reducible apply le_ext | with_reducible apply le_al))) _))
end Go.Proofs.YtmcfengnihomcaaGreat

/- Slices of bounds and of sums: copied, compared, measured, searched. No condition. -/
namespace Go.Proofs.YtmcfengnihomcaaGreat
open Go.RowKit Go.ChangeShapes Go.WideShapes Go.Deep
set_option linter.unusedVariables false
attribute [local go_sem] ext_cell ext_frozen ext_lt ext_le ext_le1 lt_s2 lt_s3 lt_s4 lt_s5 lt_s6 ext_lt1 ext_lt2 ext_lt3

/-- Bounds. -/
structure Itv where
  lo : Int
  hi : Int
  deriving DecidableEq
/-- A sum. -/
structure Sum where
  on : Bool
  lo : Int
  hi : Int
  deriving DecidableEq
abbrev Itv.v (x : Itv) : Value := .agg #[.int .i64 x.lo, .int .i64 x.hi]
abbrev Sum.v (x : Sum) : Value := .agg #[.bool x.on, .int .i64 x.lo, .int .i64 x.hi]
structure ItvWf (x : Itv) : Prop where
  lo : I64 x.lo
  hi : I64 x.hi
structure SumWf (x : Sum) : Prop where
  lo : I64 x.lo
  hi : I64 x.hi

def Itv.cells (x : Itv) : List Value := [.int .i64 x.lo, .int .i64 x.hi]
def EItv : World → List Value → Itv → Prop := fun _ cs x => cs = x.cells
theorem staysItv : Stays EItv := fun _ _ _ _ _ h => h
theorem itv_len (x : Itv) : x.cells.length = 2 := rfl
theorem itv_one (xs : List Itv) : ∀ u ∈ xs.flatMap Itv.cells, u.oneCell' = true := by
  intro u hu
  obtain ⟨i, _, hi⟩ := List.mem_flatMap.1 hu
  simp only [Itv.cells, List.mem_cons, List.not_mem_nil, or_false] at hi
  rcases hi with rfl | rfl <;> rfl
theorem rdItv_at {w : World} {a : Option Addr} {n : Nat} {xs : List Itv} (h : RdL EItv 2 w a n xs) {k : Nat} (hk : k < n) : ∃ b off lo hi, a = some ⟨b, off, none⟩ ∧ xs[k]? = some ⟨lo, hi⟩ ∧
    w.cell? ⟨b, off + k * 2, none⟩ = some (.int .i64 lo) ∧ w.cell? ⟨b, off + k * 2 + 1, none⟩ = some (.int .i64 hi) ∧ b < w.heap.size := by
  obtain ⟨b, off, ⟨lo, hi⟩, cs, rfl, hx, _, hc, rfl⟩ := h.at_ hk
  exact ⟨b, off, lo, hi, rfl, hx, hc 0 _ rfl, hc 1 _ rfl, h.lt (by omega) rfl⟩
theorem itvInfo : (Tryz.prog.info? 82).map (fun i => (i.zero, i.size, i.bytes)) = some (some (.agg #[.int .i64 0, .int .i64 0]), 2, 16) := by kernel_rfl
theorem itvEl : El Tryz.prog 189 82 (.agg #[.int .i64 0, .int .i64 0]) 2 16 := El.mk' itvInfo Tryz.underlying189 rfl (by omega)
theorem rdItv_of_own {w : World} {B n cap : Nat} {a : Option Addr} {xs : List Itv} (hn : xs.length = n) (h : w.ownsRow B 82 2 (.slice a n cap) n (xs.flatMap Itv.cells)) : RdL EItv 2 w a n xs :=
  rdl_of_rd Itv.cells (by omega) itv_len hn (owns_rd h) (fun x _ => rfl)

def Sum.cells (x : Sum) : List Value := [.bool x.on, .int .i64 x.lo, .int .i64 x.hi]
def ESum : World → List Value → Sum → Prop := fun _ cs x => cs = x.cells
theorem staysSum : Stays ESum := fun _ _ _ _ _ h => h
theorem sum_len (x : Sum) : x.cells.length = 3 := rfl
theorem sum_one (xs : List Sum) : ∀ u ∈ xs.flatMap Sum.cells, u.oneCell' = true := by
  intro u hu
  obtain ⟨i, _, hi⟩ := List.mem_flatMap.1 hu
  simp only [Sum.cells, List.mem_cons, List.not_mem_nil, or_false] at hi
  rcases hi with rfl | rfl | rfl <;> rfl
theorem rdSum_at {w : World} {a : Option Addr} {n : Nat} {xs : List Sum} (h : RdL ESum 3 w a n xs) {k : Nat} (hk : k < n) : ∃ b off on lo hi, a = some ⟨b, off, none⟩ ∧ xs[k]? = some ⟨on, lo, hi⟩ ∧
    w.cell? ⟨b, off + k * 3, none⟩ = some (.bool on) ∧ w.cell? ⟨b, off + k * 3 + 1, none⟩ = some (.int .i64 lo) ∧ w.cell? ⟨b, off + k * 3 + 2, none⟩ = some (.int .i64 hi) ∧ b < w.heap.size := by
  obtain ⟨b, off, ⟨on, lo, hi⟩, cs, rfl, hx, _, hc, rfl⟩ := h.at_ hk
  exact ⟨b, off, on, lo, hi, rfl, hx, hc 0 _ rfl, hc 1 _ rfl, hc 2 _ rfl, h.lt (by omega) rfl⟩

def itvEqB (x y : Itv) : Bool := decide (x = y)
def sumEqB (x y : Sum) : Bool := decide (x = y)
end Go.Proofs.YtmcfengnihomcaaGreat
/- What the laws mark in memory, and that the marks are held. No condition. -/
namespace Go.Proofs.YtmcfengnihomcaaGreat
open Go.RowKit
set_option linter.unusedVariables false
attribute [local go_sem] ext_cell ext_frozen ext_lt ext_le ext_le1 lt_s2 lt_s3 lt_s4 lt_s5 lt_s6 ext_lt1 ext_lt2 ext_lt3

/-- What marking writes: the numbers from k on. -/
def markI (k m : Nat) : List Value := (List.range m).map fun j => .int .i64 ((k + j : Nat) : Int)
theorem markI_len (k m : Nat) : (markI k m).length = m := by simp [markI]
theorem markI_get (k m j : Nat) (h : j < m) : (markI k m)[j]? = some (.int .i64 ((k + j : Nat) : Int)) := by simp [markI, h]
theorem mark_step {k0 k C N : Nat} {ys : List Value} (hl : ys.length = N) (hN : k * C + C ≤ N) (cs : List Value) (hcl : cs.length = C) (hcs : ∀ r, r < C → cs[r]? = some (.int .i64 ((k0 + k * C + r : Nat) : Int)))
    (h : ∀ j, j < k * C → ys[j]? = (markI k0 N)[j]?) : ∀ j, j < (k + 1) * C → (sets ys (k * C) cs)[j]? = (markI k0 N)[j]? := by
  intro j hj
  rw [Nat.succ_mul] at hj
  rw [sets_get _ _ _ _ (by omega), hcl]
  by_cases h1 : j < k * C
  · rw [if_neg (by omega)]
    exact h j h1
  · rw [if_pos (by omega), hcs _ (by omega), markI_get _ _ _ (by omega), show k0 + k * C + (j - k * C) = k0 + j from by omega]
theorem mark_all {k0 C n : Nat} {ys : List Value} (hl : ys.length = n * C) (h : ∀ j, j < n * C → ys[j]? = (markI k0 (n * C))[j]?) : ys = markI k0 (n * C) := by
  apply List.ext_getElem?
  intro j
  by_cases hj : j < n * C
  · exact h j hj
  · rw [List.getElem?_eq_none (by omega), List.getElem?_eq_none (by rw [markI_len]; omega)]

set_option maxHeartbeats 4000000 in
theorem markInsInsS (a : Option Addr) (n cap : Nat) (k0 : Nat) (cs : List Value) (B : Nat) (w : World) (ho : w.ownsRow B 86 8 (.slice a n cap) n cs) (hk0 : k0 ≤ 1125899906842624) (hm : n ≤ 1099511627776) :
    Calls Tryz.prog 39 #[.slice a n cap, .int .i64 k0] w fun e w' => e = .returned (.int .i64 ((k0 + n * 8 : Nat) : Int)) ∧
      w'.ownsRow B 86 8 (.slice a n cap) n (markI k0 (n * 8)) ∧ Chg (fun b => (Value.slice a n cap).ownBlock = some b) w w' := by
  have HO := Lib.hid ho; clear ho
  go_enter Tryz.func39, Tryz.ntmps39
  go_wp2
  go_loopw [1, 5] (fun kk i wr => ∃ k K : Nat, k ≤ n ∧ K = k0 + k * 8 ∧ i = .int .i64 k ∧ kk = .int .i64 K ∧ Chg (fun b => (Value.slice a n cap).ownBlock = some b) w wr ∧
    ∃ ys, wr.ownsRow B 86 8 (.slice a n cap) n ys ∧ ∀ j, j < k * 8 → ys[j]? = (markI k0 (n * 8))[j]?) (fun _ i _ => n - (Go.RowKit.intOf i).toNat)
  case atStart => exact ⟨0, k0, Nat.zero_le _, by omega, rfl, rfl, Chg.refl _ _, _, HO.out, fun j hj => absurd hj (by omega)⟩
  case round =>
    obtain ⟨k, K, hk, hK, rfl, rfl, hg, ys, how, hys⟩ := hrel
    have hK1 : K ≤ 1135000000000000 := by omega
    have HK := Lib.hid hK; clear hK
    by_cases hlt : k < n
    · obtain ⟨g, rfl⟩ : ∃ g, a = some ⟨g, 0, none⟩ := by
        rcases how.2 with ⟨h1, h2⟩ | ⟨g, cap', cur, h1, _⟩
        · omega
        · simp only [Value.slice.injEq] at h1
          exact ⟨g, h1.1⟩
      have HH := Lib.hid hys; clear hys
      have HG := Lib.hid hg; clear hg
      have HW := Lib.hid how; clear how
      obtain ⟨y0, e0⟩ := own_some HW.out (j := k * 8) (by omega)
      obtain ⟨y1, e1⟩ := own_some HW.out (j := k * 8 + 1) (by omega)
      obtain ⟨y2, e2⟩ := own_some HW.out (j := k * 8 + 2) (by omega)
      obtain ⟨y3, e3⟩ := own_some HW.out (j := k * 8 + 3) (by omega)
      obtain ⟨y4, e4⟩ := own_some HW.out (j := k * 8 + 4) (by omega)
      obtain ⟨y5, e5⟩ := own_some HW.out (j := k * 8 + 5) (by omega)
      obtain ⟨y6, e6⟩ := own_some HW.out (j := k * 8 + 6) (by omega)
      obtain ⟨y7, e7⟩ := own_some HW.out (j := k * 8 + 7) (by omega)
      have f0 := fun j => HW.out.frozenAt j
      go_wp2
      go_roundw
      case rel =>
        have hK := HK.out
        obtain ⟨ho', hg'⟩ := own_sets ([.int .i64 (K : Int), .int .i64 ((K : Int) + 1), .int .i64 ((K : Int) + 1 + 1), .int .i64 ((K : Int) + 1 + 1 + 1), .int .i64 ((K : Int) + 1 + 1 + 1 + 1), .int .i64 ((K : Int) + 1 + 1 + 1 + 1 + 1), .int .i64 ((K : Int) + 1 + 1 + 1 + 1 + 1 + 1), .int .i64 ((K : Int) + 1 + 1 + 1 + 1 + 1 + 1 + 1)]) _ _ (k * 8) HW.out
        refine ⟨k + 1, K + 8, by omega, by omega, by go_num, by go_num, (HG.out.trans (Chg.of_grownBy hg') (fun _ _ h => h) (fun i _ h => h)), _, ho', mark_step HW.out.1 (by omega) _ rfl (fun r hr => ?_) HH.out⟩
        match r, hr with
          | 0, _ => rw [← hK]; rfl
          | 1, _ => rw [← hK]; rfl
          | 2, _ => rw [← hK]; rfl
          | 3, _ => rw [← hK]; rfl
          | 4, _ => rw [← hK]; rfl
          | 5, _ => rw [← hK]; rfl
          | 6, _ => rw [← hK]; rfl
          | 7, _ => rw [← hK]; rfl
      case measure => simp [Go.RowKit.intOf]; omega
    · obtain rfl : k = n := by omega
      have hfin := mark_all how.1 hys
      subst hfin
      clear hys
      have HW := Lib.hid how; clear how
      have HG := Lib.hid hg; clear hg
      go_wp2
      go_ret
      exact ⟨by rw [HK.out]; rfl, HW.out, HG.out⟩

end Go.Proofs.YtmcfengnihomcaaGreat
/-
  DERIVED: THE SHELF's CONTRACTS AT THIS DUMP, IN PLAIN WORDS (tools/lay-plain.mjs out of 'TryzShelf.lean', which tools/lay-shelf.mjs wrote): THE SAME DECLARATIONS UNDER THE SAME NAMES: 'import', 'namespace', 'open', 'def', 'theorem' AND NOTHING ELSE: no command of the shelf's: FOR A HAND-IN. Each laying: the table of numbers ('.._ren') and one theorem, a field a fact of the dump's own or the kernel's comparison; each contract: ONE APPLICATION.
-/
namespace Go.Proofs
open Go.Shelf
def Tryz.lays128_ren : Go.Shelf.Ren := ⟨fun | 128 => 90 | n => n, fun | 51 => 139 | 3 => 3 | 4 => 4 | 46 => 118 | 5 => 5 | 9 => 9 | n => n, fun | n => n⟩
theorem Tryz.lays128 : Go.Proofs.Lays.n128 Tryz.prog Tryz.lays128_ren := {
  mixed := by kernel_rfl
  f128 := Tryz.func90.trans (congrArg some (by kernel_rfl))
  t3 := Tryz.underlying3
  a3 := Tryz.isAgg3
  z3 := Tryz.sizeOf3
  v3 := Tryz.zeroValue3
  t4 := Tryz.underlying4
  a4 := Tryz.isAgg4
  z4 := Tryz.sizeOf4
  v4 := Tryz.zeroValue4
  t5 := Tryz.underlying5
  a5 := Tryz.isAgg5
  z5 := Tryz.sizeOf5
  v5 := Tryz.zeroValue5
  t9 := Tryz.underlying9
  a9 := Tryz.isAgg9
  z9 := Tryz.sizeOf9
  v9 := Tryz.zeroValue9
  t46 := Tryz.underlying118
  a46 := Tryz.isAgg118
  z46 := Tryz.sizeOf118
  v46 := Tryz.zeroValue118
  t51 := Tryz.underlying139
  a51 := Tryz.isAgg139
  z51 := Tryz.sizeOf139
  v51 := Tryz.zeroValue139 }
/-- bits.Len32: "Len32 returns the minimum number of bits required to represent x; the result is 0 for x == 0.": IT RETURNS 'Lib.bitLen x'; the world is as it was. ('h0', 'h1': x is a uint32.) (LAID: no walk: one application.) -/
theorem Tryz.bits_Len32 (x : Int) (w : World) (h0 : 0 ≤ x) (h1 : x ≤ 4294967295) :
    Calls Tryz.prog 90 #[.int .u32 x] w fun e w' => e = .returned (.int .i64 (Lib.bitLen x.toNat)) ∧ w' = w := Any.bits_Len32 Tryz.lays128 x w h0 h1
def Tryz.lays125_ren : Go.Shelf.Ren := ⟨fun | 125 => 73 | 128 => 90 | 129 => 91 | n => n, fun | 46 => 118 | 3 => 3 | 51 => 139 | 53 => 141 | 4 => 4 | 5 => 5 | 9 => 9 | n => n, fun | n => n⟩
theorem Tryz.lays125 : Go.Proofs.Lays.n125 Tryz.prog Tryz.lays125_ren := {
  mixed := by kernel_rfl
  f125 := Tryz.func73.trans (congrArg some (by kernel_rfl))
  f128 := Tryz.func90.trans (congrArg some (by kernel_rfl))
  f129 := Tryz.func91.trans (congrArg some (by kernel_rfl))
  t3 := Tryz.underlying3
  a3 := Tryz.isAgg3
  z3 := Tryz.sizeOf3
  v3 := Tryz.zeroValue3
  t4 := Tryz.underlying4
  a4 := Tryz.isAgg4
  z4 := Tryz.sizeOf4
  v4 := Tryz.zeroValue4
  t5 := Tryz.underlying5
  a5 := Tryz.isAgg5
  z5 := Tryz.sizeOf5
  v5 := Tryz.zeroValue5
  t9 := Tryz.underlying9
  a9 := Tryz.isAgg9
  z9 := Tryz.sizeOf9
  v9 := Tryz.zeroValue9
  t46 := Tryz.underlying118
  a46 := Tryz.isAgg118
  z46 := Tryz.sizeOf118
  v46 := Tryz.zeroValue118
  t51 := Tryz.underlying139
  a51 := Tryz.isAgg139
  z51 := Tryz.sizeOf139
  v51 := Tryz.zeroValue139
  t53 := Tryz.underlying141
  a53 := Tryz.isAgg141
  z53 := Tryz.sizeOf141
  v53 := Tryz.zeroValue141 }
/-- bits.Len: "Len returns the minimum number of bits required to represent x; the result is 0 for x == 0.": IT RETURNS 'Lib.bitLen x'; the world is as it was. (A uint has 64 bits in the model.) ITS CALLEE bits.Len64 IS MET BY ITS OWN CONTRACT OFF THE SHELF (lay that first). (LAID: no walk: one application.) -/
theorem Tryz.bits_Len (x : Int) (w : World) (h0 : 0 ≤ x) (h1 : x ≤ 18446744073709551615) :
    Calls Tryz.prog 73 #[.int .u64 x] w fun e w' => e = .returned (.int .i64 (Lib.bitLen x.toNat)) ∧ w' = w := Any.bits_Len Tryz.lays125 x w h0 h1
def Tryz.lays129_ren : Go.Shelf.Ren := ⟨fun | 129 => 91 | n => n, fun | 53 => 141 | 3 => 3 | 4 => 4 | 46 => 118 | 5 => 5 | 9 => 9 | n => n, fun | n => n⟩
theorem Tryz.lays129 : Go.Proofs.Lays.n129 Tryz.prog Tryz.lays129_ren := {
  mixed := by kernel_rfl
  f129 := Tryz.func91.trans (congrArg some (by kernel_rfl))
  t3 := Tryz.underlying3
  a3 := Tryz.isAgg3
  z3 := Tryz.sizeOf3
  v3 := Tryz.zeroValue3
  t4 := Tryz.underlying4
  a4 := Tryz.isAgg4
  z4 := Tryz.sizeOf4
  v4 := Tryz.zeroValue4
  t5 := Tryz.underlying5
  a5 := Tryz.isAgg5
  z5 := Tryz.sizeOf5
  v5 := Tryz.zeroValue5
  t9 := Tryz.underlying9
  a9 := Tryz.isAgg9
  z9 := Tryz.sizeOf9
  v9 := Tryz.zeroValue9
  t46 := Tryz.underlying118
  a46 := Tryz.isAgg118
  z46 := Tryz.sizeOf118
  v46 := Tryz.zeroValue118
  t53 := Tryz.underlying141
  a53 := Tryz.isAgg141
  z53 := Tryz.sizeOf141
  v53 := Tryz.zeroValue141 }
/-- bits.Len64: "Len64 returns the minimum number of bits required to represent x; the result is 0 for x == 0.": IT RETURNS 'Lib.bitLen x'; the world is as it was. ('h0', 'h1': x is a uint64.) (LAID: no walk: one application.) -/
theorem Tryz.bits_Len64 (x : Int) (w : World) (h0 : 0 ≤ x) (h1 : x ≤ 18446744073709551615) :
    Calls Tryz.prog 91 #[.int .u64 x] w fun e w' => e = .returned (.int .i64 (Lib.bitLen x.toNat)) ∧ w' = w := Any.bits_Len64 Tryz.lays129 x w h0 h1
def Tryz.lays189_ren : Go.Shelf.Ren := ⟨fun | 189 => 54 | 125 => 73 | 257 => 72 | 128 => 90 | 129 => 91 | 294 => 81 | 295 => 82 | 296 => 83 | 297 => 84 | 298 => 85 | 299 => 86 | 216 => 87 | 300 => 88 | 301 => 89 | 328 => 93 | 329 => 94 | 330 => 95 | 331 => 96 | 332 => 97 | 215 => 98 | 343 => 99 | n => n, fun | 28 => 26 | 3 => 3 | 46 => 118 | 0 => 0 | 51 => 139 | 53 => 141 | 4 => 4 | 183 => 132 | 182 => 131 | 131 => 136 | 5 => 5 | 9 => 9 | 218 => 143 | 222 => 147 | 228 => 149 | 229 => 150 | n => n, fun | n => n⟩
theorem Tryz.lays189 : Go.Proofs.Lays.n189 Tryz.prog Tryz.lays189_ren := {
  mixed := by kernel_rfl
  f125 := Tryz.func73.trans (congrArg some (by kernel_rfl))
  f128 := Tryz.func90.trans (congrArg some (by kernel_rfl))
  f129 := Tryz.func91.trans (congrArg some (by kernel_rfl))
  f189 := Tryz.func54.trans (congrArg some (by kernel_rfl))
  f215 := Tryz.func98.trans (congrArg some (by kernel_rfl))
  f216 := Tryz.func87.trans (congrArg some (by kernel_rfl))
  f257 := Tryz.func72.trans (congrArg some (by kernel_rfl))
  f294 := Tryz.func81.trans (congrArg some (by kernel_rfl))
  f295 := Tryz.func82.trans (congrArg some (by kernel_rfl))
  f296 := Tryz.func83.trans (congrArg some (by kernel_rfl))
  f297 := Tryz.func84.trans (congrArg some (by kernel_rfl))
  f298 := Tryz.func85.trans (congrArg some (by kernel_rfl))
  f299 := Tryz.func86.trans (congrArg some (by kernel_rfl))
  f300 := Tryz.func88.trans (congrArg some (by kernel_rfl))
  f301 := Tryz.func89.trans (congrArg some (by kernel_rfl))
  f328 := Tryz.func93.trans (congrArg some (by kernel_rfl))
  f329 := Tryz.func94.trans (congrArg some (by kernel_rfl))
  f330 := Tryz.func95.trans (congrArg some (by kernel_rfl))
  f331 := Tryz.func96.trans (congrArg some (by kernel_rfl))
  f332 := Tryz.func97.trans (congrArg some (by kernel_rfl))
  f343 := Tryz.func99.trans (congrArg some (by kernel_rfl))
  t0 := Tryz.underlying0
  a0 := Tryz.isAgg0
  z0 := Tryz.sizeOf0
  v0 := Tryz.zeroValue0
  t3 := Tryz.underlying3
  a3 := Tryz.isAgg3
  z3 := Tryz.sizeOf3
  v3 := Tryz.zeroValue3
  t4 := Tryz.underlying4
  a4 := Tryz.isAgg4
  z4 := Tryz.sizeOf4
  v4 := Tryz.zeroValue4
  t5 := Tryz.underlying5
  a5 := Tryz.isAgg5
  z5 := Tryz.sizeOf5
  v5 := Tryz.zeroValue5
  t9 := Tryz.underlying9
  a9 := Tryz.isAgg9
  z9 := Tryz.sizeOf9
  v9 := Tryz.zeroValue9
  t28 := Tryz.underlying26
  a28 := Tryz.isAgg26
  z28 := Tryz.sizeOf26
  v28 := Tryz.zeroValue26
  t46 := Tryz.underlying118
  a46 := Tryz.isAgg118
  z46 := Tryz.sizeOf118
  v46 := Tryz.zeroValue118
  t51 := Tryz.underlying139
  a51 := Tryz.isAgg139
  z51 := Tryz.sizeOf139
  v51 := Tryz.zeroValue139
  t53 := Tryz.underlying141
  a53 := Tryz.isAgg141
  z53 := Tryz.sizeOf141
  v53 := Tryz.zeroValue141
  t131 := Tryz.underlying136
  a131 := Tryz.isAgg136
  z131 := Tryz.sizeOf136
  v131 := Tryz.zeroValue136
  t182 := Tryz.underlying131
  a182 := Tryz.isAgg131
  z182 := Tryz.sizeOf131
  v182 := Tryz.zeroValue131
  t183 := Tryz.underlying132
  a183 := Tryz.isAgg132
  z183 := Tryz.sizeOf132
  v183 := Tryz.zeroValue132
  t218 := Tryz.underlying143
  a218 := Tryz.isAgg143
  z218 := Tryz.sizeOf143
  v218 := Tryz.zeroValue143
  t222 := Tryz.underlying147
  a222 := Tryz.isAgg147
  z222 := Tryz.sizeOf147
  v222 := Tryz.zeroValue147
  t228 := Tryz.underlying149
  a228 := Tryz.isAgg149
  z228 := Tryz.sizeOf149
  v228 := Tryz.zeroValue149
  t229 := Tryz.underlying150
  a229 := Tryz.isAgg150
  z229 := Tryz.sizeOf150
  v229 := Tryz.zeroValue150 }
open Go.Sort Go.RowKit in
theorem Tryz.slices_Sort_int (blk off cap : Nat) (zs : List Int) (w : World) (hH : Holds (Value.int .i64) w blk off zs.toArray) (hblk : blk < w.heap.size) (hsz : zs.length < 4611686018427387904) :
    Calls Tryz.prog 54 #[.slice (some ⟨blk, off, none⟩) zs.length cap] w fun e w' =>
      e = .returned (.tuple #[]) ∧ ∃ n os, w' = grow (putRow (Value.int .i64) (Sort.ahead w n) blk off (zs.mergeSort fun x y => decide (x ≤ y)).toArray) os := Any.slices_Sort_int Tryz.lays189 blk off cap zs w hH hblk hsz
def Tryz.laysNm220_ren : Go.Shelf.Ren := ⟨fun | 20 => 55 | n => n, fun | 22 => 26 | 3 => 3 | 4 => 4 | 0 => 0 | n => n, fun | n => n⟩
theorem Tryz.laysNm220 : Go.Proofs.Lays2.n20 Tryz.prog Tryz.laysNm220_ren := {
  mixed := by kernel_rfl
  f20 := Tryz.func55.trans (congrArg some (by kernel_rfl))
  t0 := Tryz.underlying0
  a0 := Tryz.isAgg0
  z0 := Tryz.sizeOf0
  v0 := Tryz.zeroValue0
  t3 := Tryz.underlying3
  a3 := Tryz.isAgg3
  z3 := Tryz.sizeOf3
  v3 := Tryz.zeroValue3
  t4 := Tryz.underlying4
  a4 := Tryz.isAgg4
  z4 := Tryz.sizeOf4
  v4 := Tryz.zeroValue4
  t22 := Tryz.underlying26
  a22 := Tryz.isAgg26
  z22 := Tryz.sizeOf26
  v22 := Tryz.zeroValue26
  i3 := by kernel_rfl }
open Go.RowKit Go.Lib Go.Sort in
/-- slices.Compact at []int, over an array: the library's two loops are walked. (LAID: no walk: one application.) -/
theorem Tryz.slices_Compact_int_arr (blk off cap : Nat) (d : Array Int) (w : World) (hH : Holds encI w blk off d) (hsz : d.size ≤ 9223372036854775807) (hcap : d.size ≤ cap) :
    Calls Tryz.prog 55 #[.slice (some ⟨blk, off, none⟩) d.size cap] w fun e w' => e = .returned (.slice (some ⟨blk, off, none⟩) (compactUpTo d d.size).length cap) ∧ ∃ q, w' = putRow encI (Sort.ahead w q) blk off (compactUpTo d d.size ++ List.replicate (d.size - (compactUpTo d d.size).length) 0).toArray := Any.slices_Compact_int_arr Tryz.laysNm220 blk off cap d w hH hsz hcap
open Go.RowKit Go.Lib Go.Sort in
/-- slices.Compact at []int: "Compact replaces consecutive runs of equal elements with a single copy. This is like the uniq command found on Unix. Compact modifies the contents of the slice s and returns the modified slice, which may have a smaller length. Compact zeroes the elements between the new length and the original length. The result preserves the nilness of s.": IT RETURNS THE SLICE CUT TO 'Lib.compact zs'; ITS CELLS HOLD 'Lib.compact zs', THEN ZERO VALUES up to the old length; all else is as it was, but for the count of draws. IN THE WORDS OF slices.Sort's CONTRACT ('Holds', 'putRow'): so the everyday 'slices.Sort(xs); xs = slices.Compact(xs)' goes from the one contract to the other. It asks 'zs.length ≤ cap' (every slice's: the reslicing 's[:k]' looks at it). Length 0, nil: '.._empty'. (LAID: no walk: one application.) -/
theorem Tryz.slices_Compact_int (blk off cap : Nat) (zs : List Int) (w : World) (hH : Holds (Value.int .i64) w blk off zs.toArray) (hsz : zs.length ≤ 9223372036854775807) (hcap : zs.length ≤ cap) :
    Calls Tryz.prog 55 #[.slice (some ⟨blk, off, none⟩) zs.length cap] w fun e w' => e = .returned (.slice (some ⟨blk, off, none⟩) (Lib.compact zs).length cap) ∧ ∃ q, w' = putRow (Value.int .i64) (Sort.ahead w q) blk off (Lib.compact zs ++ List.replicate (zs.length - (Lib.compact zs).length) 0).toArray := Any.slices_Compact_int Tryz.laysNm220 blk off cap zs w hH hsz hcap
open Go.RowKit Go.Lib Go.Sort in
/-- The same at a slice of length 0, a nil one too: it comes back as it is. (LAID: no walk: one application.) -/
theorem Tryz.slices_Compact_int_empty (a : Option Addr) (cap : Nat) (w : World) :
    Calls Tryz.prog 55 #[.slice a 0 cap] w fun e w' => e = .returned (.slice a 0 cap) ∧ w' = w := Any.slices_Compact_int_empty Tryz.laysNm220 a cap w
def Tryz.laysNm237_ren : Go.Shelf.Ren := ⟨fun | 37 => 98 | n => n, fun | 3 => 3 | 4 => 4 | n => n, fun | n => n⟩
theorem Tryz.laysNm237 : Go.Proofs.Lays2.n37 Tryz.prog Tryz.laysNm237_ren := {
  mixed := by kernel_rfl
  f37 := Tryz.func98.trans (congrArg some (by kernel_rfl))
  t3 := Tryz.underlying3
  a3 := Tryz.isAgg3
  z3 := Tryz.sizeOf3
  v3 := Tryz.zeroValue3
  t4 := Tryz.underlying4
  a4 := Tryz.isAgg4
  z4 := Tryz.sizeOf4
  v4 := Tryz.zeroValue4 }
open Go.RowKit Go.Lib in
/-- cmp.isNaN[int]: 'x != x': false. (LAID: no walk: one application.) -/
theorem Tryz.cmp_isNaN_int2 (x : Int) (w : World) :
    Calls Tryz.prog 98 #[.int .i64 x] w fun e w' => e = .returned (.bool false) ∧ w' = w := Any.cmp_isNaN_int2 Tryz.laysNm237 x w
def Tryz.laysNm231_ren : Go.Shelf.Ren := ⟨fun | 31 => 87 | 37 => 98 | n => n, fun | 3 => 3 | 4 => 4 | n => n, fun | n => n⟩
theorem Tryz.laysNm231 : Go.Proofs.Lays2.n31 Tryz.prog Tryz.laysNm231_ren := {
  mixed := by kernel_rfl
  f31 := Tryz.func87.trans (congrArg some (by kernel_rfl))
  f37 := Tryz.func98.trans (congrArg some (by kernel_rfl))
  t3 := Tryz.underlying3
  a3 := Tryz.isAgg3
  z3 := Tryz.sizeOf3
  v3 := Tryz.zeroValue3
  t4 := Tryz.underlying4
  a4 := Tryz.isAgg4
  z4 := Tryz.sizeOf4
  v4 := Tryz.zeroValue4 }
open Go.RowKit Go.Lib in
/-- cmp.Less[int]: "Less reports whether x is less than y.": 'x < y'; the world is as it was. (LAID: no walk: one application.) -/
theorem Tryz.cmp_Less_int2 (x y : Int) (w : World) :
    Calls Tryz.prog 87 #[.int .i64 x, .int .i64 y] w fun e w' => e = .returned (.bool (decide (x < y))) ∧ w' = w := Any.cmp_Less_int2 Tryz.laysNm231 x y w
open Go.RowKit Go.Lib Go.Sort in
/-- slices.Compact at []int, of an argument: the slice cut to 'Lib.compact (elements)'; the n cells hold that, then zeros. (LAID: no walk: one application.) -/
theorem Tryz.slices_Compact_int_cells (b off n c : Nat) (zs : List Int) (w : World) (hz : n ≤ zs.length) (hbig : n ≤ 9223372036854775807) (hcap : n ≤ c) (hc : ∀ j, j < zs.length → w.cell? ⟨b, off + j, none⟩ = some (.int .i64 (zs.getD j 0))) (hf : ∀ j, j < n → w.frozen? ⟨b, off + j, none⟩ = false) :
    Calls Tryz.prog 55 #[.slice (some ⟨b, off, none⟩) n c] w fun e w' => e = .returned (.slice (some ⟨b, off, none⟩) (Lib.compact (zs.take n)).length c) ∧ ∃ q, w' = (w.drewN q).setCells b off ((Lib.compact (zs.take n) ++ List.replicate (n - (Lib.compact (zs.take n)).length) 0).map (Value.int .i64)) := Any.slices_Compact_int_cells Tryz.laysNm220 b off n c zs w hz hbig hcap hc hf
open Go.RowKit Go.Sort in
/-- .. and plain. (LAID: no walk: one application.) -/
theorem Tryz.slices_Sort_int_none (p : Option Addr) (cap : Nat) (w : World) :
    Calls Tryz.prog 54 #[.slice p 0 cap] w fun e w' => e = .returned (.tuple #[]) ∧ w' = w := Any.slices_Sort_int_none Tryz.lays189 p cap w
def Tryz.sortedI_ren : Go.Shelf.Ren := ⟨fun | 6 => 56 | 8 => 74 | 9 => 54 | 11 => 92 | 13 => 73 | 12 => 72 | 23 => 90 | 24 => 91 | 14 => 81 | 15 => 82 | 16 => 83 | 17 => 84 | 18 => 85 | 19 => 86 | 20 => 87 | 21 => 88 | 22 => 89 | 25 => 93 | 26 => 94 | 27 => 95 | 28 => 96 | 29 => 97 | 30 => 98 | 31 => 99 | n => n, fun | 26 => 3 | 28 => 93 | 24 => 26 | 0 => 0 | 3 => 3 | 37 => 118 | 48 => 139 | 50 => 141 | 4 => 4 | 40 => 132 | 39 => 131 | 45 => 136 | 5 => 5 | 9 => 9 | 51 => 143 | 55 => 147 | 57 => 149 | 58 => 150 | 33 => 96 | n => n, fun | n => n⟩
theorem Tryz.sortedI : Go.Proofs.SlLaysZI.n6 Tryz.prog Tryz.sortedI_ren := {
  mixed := by kernel_rfl
  f6 := ⟨Tryz.f56.name, by decide, Tryz.func56.trans (congrArg some (by kernel_rfl))⟩
  f8 := ⟨Tryz.f74.name, by decide, Tryz.func74.trans (congrArg some (by kernel_rfl))⟩
  f11 := ⟨Tryz.f92.name, by decide, Tryz.func92.trans (congrArg some (by kernel_rfl))⟩
  t0 := Tryz.underlying0
  a0 := Tryz.isAgg0
  z0 := Tryz.sizeOf0
  v0 := Tryz.zeroValue0
  t24 := Tryz.underlying26
  a24 := Tryz.isAgg26
  z24 := Tryz.sizeOf26
  v24 := Tryz.zeroValue26
  t26 := Tryz.underlying3
  a26 := Tryz.isAgg3
  z26 := Tryz.sizeOf3
  v26 := Tryz.zeroValue3
  t28 := Tryz.underlying93
  a28 := Tryz.isAgg93
  z28 := Tryz.sizeOf93
  v28 := Tryz.zeroValue93
  i26 := by kernel_rfl }
end Go.Proofs

/- Slices of numbers: copied, compared, measured, marked, sorted, made compact. No condition. -/
namespace Go.Proofs.YtmcfengnihomcaaGreat
open Go.RowKit
set_option linter.unusedVariables false
attribute [local go_sem] ext_cell ext_frozen ext_lt ext_le ext_le1 lt_s2 lt_s3 lt_s4 lt_s5 lt_s6 ext_lt1 ext_lt2 ext_lt3

theorem intInfo : (Tryz.prog.info? 3).map (fun i => (i.zero, i.size, i.bytes)) = some (some (.int .i64 0), 1, 8) := by kernel_rfl
theorem intEl : El Tryz.prog 26 3 (.int .i64 0) 1 8 := El.mk' intInfo Tryz.underlying26 rfl (by omega)
theorem int_one (zs : List Int) : ∀ u ∈ ints .i64 zs, u.oneCell' = true := by
  intro u hu
  obtain ⟨x, _, rfl⟩ := List.mem_map.1 hu
  rfl


theorem eqIntS (a : Option Addr) (n cap : Nat) (zs : List Int) (a' : Option Addr) (n' cap' : Nat) (ys : List Int) (w : World) (hr : Rd w a n 1 (ints .i64 zs)) (hr' : Rd w a' n' 1 (ints .i64 ys))
    (hm : n ≤ 140737488351232) (hm' : n' ≤ 140737488351232) :
    Calls Tryz.prog 9 #[.slice a n cap, .slice a' n' cap'] w fun e w' => e = .returned (.bool (decide (zs = ys))) ∧ ∃ q, w' = w.drewN q := by
  have hl := hr.len1
  have hl' := hr'.len1
  have HR := Lib.hid hr; clear hr
  have HR' := Lib.hid hr'; clear hr'
  have HL := Lib.hid hl; clear hl
  have HL' := Lib.hid hl'; clear hl'
  by_cases hn : n = n'
  · subst hn
    go_enter Tryz.func9, Tryz.ntmps9
    go_wp2
    go_loopw [5] (fun i wr => ∃ k : Nat, k ≤ n ∧ i = .int .i64 k ∧ (∃ q, wr = w.drewN q) ∧ zs.take k = ys.take k) (fun i _ => n - (Go.RowKit.intOf i).toNat)
    case atStart => exact ⟨0, Nat.zero_le _, rfl, ⟨0, rfl⟩, by simp⟩
    case round =>
      obtain ⟨k, hk, rfl, ⟨q, rfl⟩, he⟩ := hrel
      have HE := Lib.hid he; clear he
      by_cases hlt : k < n
      · obtain ⟨b, off, x, rfl, hx, hcell⟩ := HR.out.at1 hlt
        obtain ⟨b', off', y, rfl, hy, hcell'⟩ := HR'.out.at1 hlt
        have HX := Lib.hid hx; clear hx
        have HY := Lib.hid hy; clear hy
        by_cases hxy : x = y
        · subst hxy
          go_wp2
          go_quiet (fail)
          go_wp2
          go_roundw
          case rel => exact ⟨k + 1, by omega, by go_num, ⟨_, rfl⟩, by rw [take_get HX.out, take_get HY.out, HE.out]⟩
          case measure => simp [Go.RowKit.intOf]; omega
        · have hb : (x == y) = false := by simp [hxy]
          have hb' : (x != y) = true := by simp [hxy]
          have hfin : decide (zs = ys) = false := by
            apply decide_eq_false
            intro e
            have h1 := HX.out
            rw [e, HY.out] at h1
            exact hxy (Option.some.inj h1).symm
          have HF := Lib.hid hfin; clear hfin hxy
          go_wp2
          go_quiet (fail)
          go_wp2
          go_ret
          exact ⟨by rw [HF.out]; rfl, _, World.drewN_drewN _ _ _⟩
      · go_wp2
        go_ret
        have : zs = ys := by
          have h := HE.out
          rwa [List.take_of_length_le (by have := HL.out; omega), List.take_of_length_le (by have := HL'.out; omega)] at h
        exact ⟨by rw [decide_eq_true this]; rfl, _, rfl⟩
  · have hfin : decide (zs = ys) = false := by
      apply decide_eq_false
      intro e
      have h1 := HL.out
      rw [e, HL'.out] at h1
      exact hn h1.symm
    have hb : ((n : Int) != (n' : Int)) = true := by simp; omega
    have HF := Lib.hid hfin; clear hfin hn
    go_enter Tryz.func9, Tryz.ntmps9
    go_wp2
    go_ret
    exact ⟨by rw [HF.out]; rfl, 0, rfl⟩

set_option maxHeartbeats 4000000 in
theorem markIntS (a : Option Addr) (n cap : Nat) (k0 : Nat) (cs : List Value) (B : Nat) (w : World) (ho : w.ownsRow B 3 1 (.slice a n cap) n cs) (hk0 : k0 ≤ 1099511627776) (hm : n ≤ 1099511627776) :
    Calls Tryz.prog 12 #[.slice a n cap, .int .i64 k0] w fun e w' => e = .returned (.int .i64 ((k0 + n * 1 : Nat) : Int)) ∧
      w'.ownsRow B 3 1 (.slice a n cap) n (markI k0 (n * 1)) ∧ Chg (fun b => (Value.slice a n cap).ownBlock = some b) w w' := by
  have HO := Lib.hid ho; clear ho
  go_enter Tryz.func12, Tryz.ntmps12
  go_wp2
  go_loopw [1, 5] (fun kk i wr => ∃ k K : Nat, k ≤ n ∧ K = k0 + k * 1 ∧ i = .int .i64 k ∧ kk = .int .i64 K ∧ Chg (fun b => (Value.slice a n cap).ownBlock = some b) w wr ∧
    ∃ ys, wr.ownsRow B 3 1 (.slice a n cap) n ys ∧ ∀ j, j < k * 1 → ys[j]? = (markI k0 (n * 1))[j]?) (fun _ i _ => n - (Go.RowKit.intOf i).toNat)
  case atStart => exact ⟨0, k0, Nat.zero_le _, by omega, rfl, rfl, Chg.refl _ _, _, HO.out, fun j hj => absurd hj (by omega)⟩
  case round =>
    obtain ⟨k, K, hk, hK, rfl, rfl, hg, ys, how, hys⟩ := hrel
    have hK1 : K ≤ 11000000000000 := by omega
    have HK := Lib.hid hK; clear hK
    by_cases hlt : k < n
    · obtain ⟨g, rfl⟩ : ∃ g, a = some ⟨g, 0, none⟩ := by
        rcases how.2 with ⟨h1, h2⟩ | ⟨g, cap', cur, h1, _⟩
        · omega
        · simp only [Value.slice.injEq] at h1
          exact ⟨g, h1.1⟩
      have HH := Lib.hid hys; clear hys
      have HG := Lib.hid hg; clear hg
      have HW := Lib.hid how; clear how
      obtain ⟨y0, e0⟩ := own_some HW.out (j := k * 1) (by omega)
      rw [Nat.mul_one] at e0
      have f0 := fun j => HW.out.frozenAt j
      go_wp2
      go_roundw
      case rel =>
        have hK := HK.out
        rw [show (⟨g, k, none⟩ : Addr) = ⟨g, k * 1, none⟩ from by rw [Nat.mul_one]]
        obtain ⟨ho', hg'⟩ := own_sets ([.int .i64 (K : Int)]) _ _ (k * 1) HW.out
        refine ⟨k + 1, K + 1, by omega, by omega, by go_num, by go_num, (HG.out.trans (Chg.of_grownBy hg') (fun _ _ h => h) (fun i _ h => h)), _, ho', mark_step HW.out.1 (by omega) _ rfl (fun r hr => ?_) HH.out⟩
        match r, hr with
          | 0, _ => rw [← hK]; rfl
      case measure => simp [Go.RowKit.intOf]; omega
    · obtain rfl : k = n := by omega
      have hfin := mark_all how.1 hys
      subst hfin
      clear hys
      have HW := Lib.hid how; clear how
      have HG := Lib.hid hg; clear hg
      go_wp2
      go_ret
      exact ⟨by rw [HK.out]; rfl, HW.out, HG.out⟩


set_option maxHeartbeats 2000000 in
theorem heldIntS (a : Option Addr) (n cap : Nat) (k0 : Nat) (w : World) (hr : Rd w a n 1 (markI k0 (n * 1))) (hk0 : k0 ≤ 1099511627776) (hm : n ≤ 1099511627776) :
    Calls Tryz.prog 13 #[.slice a n cap, .int .i64 k0] w fun e w' => e = .returned (.int .i64 ((k0 + n * 1 : Nat) : Int)) ∧ w = w' := by
  have HR := Lib.hid hr; clear hr
  go_enter Tryz.func13, Tryz.ntmps13
  go_wp2
  go_loop [1, 5] (fun kk i => ∃ k K : Nat, k ≤ n ∧ K = k0 + k * 1 ∧ i = .int .i64 k ∧ kk = .int .i64 K) (fun _ i => n - (Go.RowKit.intOf i).toNat)
  case atStart => exact ⟨0, k0, Nat.zero_le _, by omega, rfl, rfl⟩
  case round =>
    obtain ⟨k, K, hk, hK, rfl, rfl⟩ := hrel
    have hK1 : K ≤ 11000000000000 := by omega
    have HK := Lib.hid hK; clear hK
    by_cases hlt : k < n
    · obtain ⟨b, off, rfl, hcell⟩ : ∃ b off, a = some ⟨b, off, none⟩ ∧ ∀ j, j < n * 1 → w.cell? ⟨b, off + j, none⟩ = some (.int .i64 ((k0 + j : Nat) : Int)) := by
        rcases HR.out.2 with h0 | ⟨b, off, e, hc⟩
        · have := markI_len k0 (n * 1)
          rw [h0, List.length_nil] at this
          omega
        · exact ⟨b, off, e, fun j hj => hc j _ (markI_get _ _ _ hj)⟩
      have c0 := hcell (k * 1) (by omega)
      rw [show k0 + (k * 1) = K from by have := HK.out; omega] at c0
      clear hcell
      rw [Nat.mul_one] at c0
      go_wp2
      go_round
      case rel => exact ⟨k + 1, K + 1, by omega, by have := HK.out; omega, by go_num, by go_num⟩
      case measure => simp [Go.RowKit.intOf]; omega
    · obtain rfl : k = n := by omega
      go_wp2
      go_ret
      exact ⟨by rw [HK.out]; (first | rfl | simp), rfl⟩



theorem grow_none (w : World) : Go.Sort.grow w #[] = w := by simp [Go.Sort.grow]
/-- The library's sort on a row of the call's own. -/
theorem sortInts (B : Nat) (a : Option Addr) (n cap : Nat) (zs : List Int) (w : World) (ho : w.ownsRow B 3 1 (.slice a n cap) n (ints .i64 zs)) (hn : n ≤ 1099511627776) :
    Calls Tryz.prog 54 #[.slice a n cap] w fun e w' => e = .returned (.tuple #[]) ∧ w'.ownsRow B 3 1 (.slice a n cap) n (ints .i64 (zs.mergeSort fun x y => decide (x ≤ y))) ∧ Chg (fun b => (Value.slice a n cap).ownBlock = some b) w w' := by
  have hl : zs.length = n := by have := ho.1; simpa [ints] using this
  rcases ho.2 with ⟨hv, hn0⟩ | ⟨g, cap', cur, hv, hbase, hb, h1, h2, h3, h4⟩
  · simp only [Value.slice.injEq] at hv
    obtain ⟨rfl, rfl, rfl⟩ := hv
    have hz : zs = [] := List.eq_nil_of_length_eq_zero hl
    subst hz
    refine (Tryz.slices_Sort_int_none none 0 w).mono ?_
    rintro e w' ⟨rfl, rfl⟩
    exact ⟨rfl, by simpa using ho, Chg.refl _ _⟩
  · simp only [Value.slice.injEq] at hv
    obtain ⟨rfl, _, rfl⟩ := hv
    subst hl
    rw [Nat.mul_one] at h4
    refine (Tryz.slices_Sort_int g 0 cap zs w (holds_of_blockI hb h4) (Array.getElem?_eq_some_iff.1 hb).1 (by omega)).mono ?_
    rintro e w' ⟨rfl, nn, os, rfl⟩
    refine ⟨rfl, ownsRow_sortedI (by simp) hbase hb h1 h2 h3, (Chg.of_grownBy (grownBy_sortedI _)).trans (Chg.refl _ _) (fun i _ h => ?_) (fun _ _ h => h)⟩
    simpa [Value.ownBlock] using h
/-- .. and made compact. -/
theorem compactInts (B : Nat) (a : Option Addr) (n cap : Nat) (zs : List Int) (w : World) (ho : w.ownsRow B 3 1 (.slice a n cap) n (ints .i64 zs)) (hn : n ≤ 1099511627776) :
    Calls Tryz.prog 55 #[.slice a n cap] w fun e w' => ∃ m, m = (Lib.compact zs).length ∧ e = .returned (.slice a m cap) ∧ w'.ownsRow B 3 1 (.slice a m cap) m (ints .i64 (Lib.compact zs)) ∧ Chg (fun b => (Value.slice a n cap).ownBlock = some b) w w' := by
  have hl : zs.length = n := by have := ho.1; simpa [ints] using this
  rcases ho.2 with ⟨hv, hn0⟩ | ⟨g, cap', cur, hv, hbase, hb, h1, h2, h3, h4⟩
  · simp only [Value.slice.injEq] at hv
    obtain ⟨rfl, rfl, rfl⟩ := hv
    have hz : zs = [] := List.eq_nil_of_length_eq_zero hl
    subst hz
    refine (Tryz.slices_Compact_int_empty none 0 w).mono ?_
    rintro e w' ⟨rfl, rfl⟩
    exact ⟨0, rfl, rfl, ho, Chg.refl _ _⟩
  · simp only [Value.slice.injEq] at hv
    obtain ⟨rfl, _, rfl⟩ := hv
    subst hl
    rw [Nat.mul_one] at h4
    refine (Tryz.slices_Compact_int g 0 cap zs w (holds_of_blockI hb h4) (by omega) h1).mono ?_
    rintro e w' ⟨rfl, q, rfl⟩
    have hle : (Lib.compact zs).length ≤ zs.length := Lib.compact_length_le zs
    have hw : ∀ d, Go.Sort.putRow (Value.int .i64) (Sort.ahead w q) g 0 d = Go.Sort.grow (Go.Sort.putRow (Value.int .i64) (Sort.ahead w q) g 0 d) #[] := fun d => (grow_none _).symm
    rw [hw]
    have hs := ownsRow_sortedI (w := w) (n := q) (os := #[]) (ss := zs) (ts := Lib.compact zs ++ List.replicate (zs.length - (Lib.compact zs).length) 0) (e := 3) (by simp; omega) hbase hb h1 h2 h3
    refine ⟨_, rfl, rfl, ?_, (Chg.of_grownBy (grownBy_sortedI _)).trans (Chg.refl _ _) (fun i _ h => ?_) (fun _ _ h => h)⟩
    · refine ⟨by simp [ints], .inr ?_⟩
      rcases hs.2 with ⟨hv, _⟩ | ⟨g', cap'', cur', hv, hbase', hb', k1, k2, k3, k4⟩
      · cases hv
      · simp only [Value.slice.injEq, Option.some.injEq, Addr.mk.injEq, and_true, true_and] at hv
        obtain ⟨rfl, rfl⟩ := hv
        refine ⟨g, cap, cur', rfl, hbase, hb', by omega, k2, k3, ?_⟩
        have h5 := congrArg (List.take (Lib.compact zs).length) k4
        rw [List.take_take, Nat.mul_one, Nat.min_eq_left hle] at h5
        rw [Nat.mul_one, h5, List.map_append, List.take_append_of_le_length (by simp), List.take_of_length_le (by simp)]
        rfl
    · simpa [Value.ownBlock] using h

end Go.Proofs.YtmcfengnihomcaaGreat
/- The program's search through its call graph, as an iterator: what it gives is what can be come to. No condition. -/
namespace Go.Proofs.YtmcfengnihomcaaGreat
open Go.RowKit Go.Shelf Go.Maps
set_option linter.unusedVariables false
set_option linter.unusedSimpArgs false
attribute [local go_sem] Oper.semAt_some

/-- A row of numbers, as the cells of an element. -/
def EInts : World → List Value → List Int → Prop := fun w cs l => ∃ a c, cs = [.slice a l.length c] ∧ Rd w a l.length 1 (ints .i64 l) ∧ l.length ≤ c ∧ c ≤ maxLen
theorem stays_ints : Stays EInts := fun w w' cs l hg ⟨a, c, h1, h2, h3⟩ => ⟨a, c, h1, h2.grew hg, h3⟩
/-- Rows of numbers. -/
abbrev RdLL (w : World) (a : Option Addr) (n : Nat) (ls : List (List Int)) : Prop := RdL EInts 1 w a n ls
theorem rdLL_at {w : World} {a : Option Addr} {n : Nat} {ls : List (List Int)} (h : RdLL w a n ls) {k : Nat} (hk : k < n) : ∃ b off l la lc, a = some ⟨b, off, none⟩ ∧ ls[k]? = some l ∧ w.cell? ⟨b, off + k, none⟩ = some (.slice la l.length lc) ∧ Rd w la l.length 1 (ints .i64 l) ∧ l.length ≤ lc ∧ lc ≤ maxLen := by
  obtain ⟨b, off, l, cs, rfl, h1, h2, h3, la, lc, rfl, h4, h5⟩ := h.at_ hk
  exact ⟨b, off, l, la, lc, rfl, h1, by have := h3 0 _ rfl; simpa using this, h4, h5⟩
def cOf' (cs : List (List Int)) (k : Int) : List Int := cs.getD k.toNat []
/-- The calls of a graph are procedures of it. -/
def Gok (cs : List (List Int)) : Prop := ∀ k x, x ∈ cOf' cs k → 0 ≤ x ∧ x < cs.length

abbrev mapK : TypeId := 3
abbrev mapE : TypeId := 4
/-- What stands while the graph is searched. -/
structure Trv (c : Int → List Int) (a : Int) (J : List Int → World → Prop) (T : World → Nat → Prop) (B m : Nat) (pre st sn rem : List Int) (v : Value) (wr : World) : Prop where
  d : Dfs c a pre st sn rem
  j : J pre wr
  s : SetB Tryz.prog mapK mapE wr m sn
  sm : ¬ T wr m
  o : wr.ownsRow B 3 1 v st.length (ints .i64 st)
  ot : ∀ b, v.ownBlock = some b → ¬ T wr b
  sz : sn.length ≤ pre.length + st.length
section
variable {c : Int → List Int} {a : Int} {J : List Int → World → Prop} {T : World → Nat → Prop} {w0 wr W : World} {B m : Nat} {pre st sn rem : List Int} {v : Value} {x y : Int}
theorem map_ne_row {ks : List Int} {n : Nat} {xs : List Value} (h : SetB Tryz.prog mapK mapE wr m ks) (ho : wr.ownsRow B 3 1 v n xs) : v.ownBlock ≠ some m := by
  obtain ⟨n', D, ⟨es, clock, hb, _⟩, _⟩ := h
  intro e
  rcases ho.2 with ⟨rfl, _⟩ | ⟨g, cap, cur, rfl, h1, h2, _⟩
  · cases e
  · simp only [Value.ownBlock, Option.some.injEq] at e
    subst e
    rw [hb] at h2
    cases h2
theorem owns_less {n cap : Nat} {A : Option Addr} {xs : List Int} {z : Int} (h : wr.ownsRow B 3 1 (.slice A (xs.length + 1) cap) (xs.length + 1) (ints .i64 (xs ++ [z]))) : wr.ownsRow B 3 1 (.slice A xs.length cap) xs.length (ints .i64 xs) := by
  refine ⟨by simp [ints], .inr ?_⟩
  rcases h.2 with ⟨hv, h0⟩ | ⟨g, cap', cur, hv, h1, h2, h3, h4, h5, h6⟩
  · simp at h0
  · simp only [Value.slice.injEq] at hv
    obtain ⟨rfl, _, rfl⟩ := hv
    refine ⟨g, cap, cur, rfl, h1, h2, by omega, h4, h5, ?_⟩
    have := congrArg (List.take (xs.length * 1)) h6
    rw [List.take_take, Nat.min_eq_left (by omega)] at this
    rw [this, ints_append, List.take_append_of_le_length (by simp [ints]), List.take_of_length_le (by simp [ints])]
/-- The last one is taken off and given. -/
theorem Trv.yielded {A : Option Addr} {cap : Nat} (hT : ∀ pre W1, J pre W1 → Below w0.heap.size w0 W1 ∧ ∀ b, T W1 b → w0.heap.size ≤ b ∧ b < W1.heap.size)
    (h : Trv c a J T B m pre (st ++ [x]) sn [] (.slice A (st.length + 1) cap) wr) (hj : J (pre ++ [x]) W) (hc : Chg (T wr) wr W) (ht : ∀ b, T W b → T wr b ∨ wr.heap.size ≤ b) : Trv c a J T B m (pre ++ [x]) st sn (c x) (.slice A st.length cap) W := by
  have ho : wr.ownsRow B 3 1 (.slice A st.length cap) st.length (ints .i64 st) := owns_less (z := x) (n := 0) (by have := h.o; rwa [List.length_append] at this)
  have hov : (Value.slice A st.length cap).ownBlock = (Value.slice A (st.length + 1) cap).ownBlock := by cases A <;> rfl
  refine ⟨h.d.pop, hj, h.s.chg hc h.sm, fun e => ?_, owns_chg ho hc (fun b hb e => h.ot b (by rw [← hov]; exact hb) e), fun b hb e => ?_, by have := h.sz; simp at this ⊢; omega⟩
  · rcases ht m e with e | e
    · exact h.sm e
    · have := h.s.lt
      omega
  · rcases ht b e with e | e
    · exact h.ot b (by rw [← hov]; exact hb) e
    · have := (ho.lt b hb).2
      omega
theorem Trv.skip (h : Trv c a J T B m pre st sn (y :: rem) v wr) (hy : y ∈ sn) : Trv c a J T B m pre st sn rem v wr :=
  ⟨h.d.seen hy, h.j, h.s, h.sm, h.o, h.ot, h.sz⟩
/-- A new one is marked and put behind. -/
theorem Trv.push (hT : ∀ pre W1, J pre W1 → Below w0.heap.size w0 W1 ∧ ∀ b, T W1 b → w0.heap.size ≤ b ∧ b < W1.heap.size)
    (hJ : ∀ pre W1 W2, J pre W1 → Chg (fun b => w0.heap.size ≤ b ∧ ¬ T W1 b) W1 W2 → J pre W2 ∧ ∀ b, T W2 b → T W1 b)
    (hB : w0.heap.size ≤ B) (hm : w0.heap.size ≤ m)
    (h : Trv c a J T B m pre st sn (y :: rem) v wr) (hy : ¬ y ∈ sn) {w2 w3 : World} {v3 : Value} (s2 : SetB Tryz.prog mapK mapE w2 m (y :: sn)) (g2 : wr.grownBy w2 (some m))
    (o3 : w3.ownsRow B 3 1 v3 (st.length + 1) (ints .i64 st ++ [.int .i64 y])) (g3 : w2.grownBy w3 v.ownBlock) (hv : v3.ownBlock = v.ownBlock ∨ v3.ownBlock = some (w2.heap.size + 1)) : Trv c a J T B m pre (st ++ [y]) (y :: sn) rem v3 w3 := by
  have hmv := map_ne_row h.s h.o
  have hvlt := fun b hb => h.o.lt b hb
  have hmlt := h.s.lt
  have c3 : Chg (fun b => b = m ∨ v.ownBlock = some b) wr w3 := Chg.trans (Chg.of_grownBy g2) (Chg.of_grownBy g3) (fun i _ e => .inl (Option.some.inj e).symm) (fun i _ e => .inr e)
  obtain ⟨j3, t3⟩ := hJ pre wr w3 h.j ⟨c3.os, c3.tape, c3.output, c3.size, fun k hk hn => c3.block k hk (fun e => hn (by
    rcases e with rfl | e
    · exact ⟨hm, h.sm⟩
    · exact ⟨Nat.le_trans hB (hvlt k e).1, h.ot k e⟩))⟩
  have g3c := Chg.of_grownBy g3
  refine ⟨h.d.push hy, j3, s2.chg g3c (fun e => hmv e), fun e => h.sm (t3 m e), by rw [ints_append, List.length_append]; exact o3, fun b hb e => ?_, by have := h.sz; simp; omega⟩
  rcases hv with hv | hv
  · exact h.ot b (by rw [← hv]; exact hb) (t3 b e)
  · rw [hv, Option.some.injEq] at hb
    have h1 := ((hT pre wr h.j).2 b (t3 b e)).2
    have := g2.size
    omega
theorem Trv.start {w1 : World} (hj : J [] w1) (hs : SetB Tryz.prog mapK mapE w1 m [a]) (hm : ¬ T w1 m) (ho : w1.ownsRow B 3 1 v 1 (ints .i64 [a])) (ht : ∀ b, v.ownBlock = some b → ¬ T w1 b) : Trv c a J T B m [] [a] [a] [] v w1 :=
  ⟨Dfs.start c a, hj, hs, hm, ho, ht, by simp⟩
end

theorem wpListIn_append_run {F : Fence} {nF : Nat} {P : Program} {ops : Array Oper} {rest : List Oper} {o : Oper} {a : Act} {w w' : World} {Q : Exit → Act → World → Prop} {v y v' : Value} {t : TypeId} (hgd : o.guard = none) (s x : Operand)
    (ho : o.op = .call { callee := .builtin .append, args := #[s, x], argTypes := #[t, t] }) (hty : o.type = t) (hs : a.eval s = v) (hx : a.eval x = y)
    (hrun : (Builtin.append_ #[t, t] t #[v, y]).run P w = .ok v' w') (h : wpListIn F nF P ops Q rest (a.put o.dst v') w') : wpListIn F nF P ops Q (o :: rest) a w := by
  refine wpListIn_plain hgd fun K hK => ?_
  unfold Oper.wpIn
  refine ⟨by simp [Oper.about, ho, resolve, Target.leads, Sem.run_pure], ?_⟩
  rw [Oper.semAt_plain F _ _ (by rw [ho]; intro c hc'; cases hc')]
  simp [execOp, ho, hty, resolve, invoke, builtin, hs, hx, hrun, Result.andThen]
  exact hK _ _ h
theorem cOf_get {cs : List (List Int)} {k : Nat} {l : List Int} (h : cs[k]? = some l) : cOf' cs (k : Int) = l := by simp [cOf', h]
theorem mapT : Tryz.prog.underlying 68 = some (.map mapK mapE) := Tryz.underlying68

set_option maxRecDepth 100000 in
set_option maxHeartbeats 4000000 in
theorem trav_own (n : Nat) (hn1 : 1 ≤ n) (bp bg gb : Nat) (a : Int) (cs : List (List Int)) (ca : Option Addr) (cc : Nat) (w : World) (hbp : w.cell? ⟨bp, 0, none⟩ = some (.int .i64 a)) (hbg : w.cell? ⟨bg, 0, none⟩ = some (.pointer (some ⟨gb, 0, none⟩)))
    (hg1 : w.cell? ⟨gb, 1, none⟩ = some (.slice ca cs.length cc)) (hr : RdLL w ca cs.length cs) (hG : Gok cs) (ha : 0 ≤ a ∧ a < cs.length) (hn : cs.length ≤ 900) :
    SeqOwn Fence.wide n Tryz.prog 75 #[.pointer (some ⟨bp, 0, none⟩), .pointer (some ⟨bg, 0, none⟩)] (fun ss => ss.Nodup ∧ ∀ x, x ∈ ss ↔ Rch (cOf' cs) a x) cs.length w := by
  intro l J T W hW hT hJ hY h0
  have HR := Lib.hid hr; clear hr
  have HG := Lib.hid hG; clear hG
  have HT := Lib.hid hT; clear hT
  have HJ := Lib.hid hJ; clear hJ
  have HY := Lib.hid hY; clear hY
  have lp := World.block_lt_of_cell? w _ hbp
  have lg := World.block_lt_of_cell? w _ hbg
  have lb := World.block_lt_of_cell? w _ hg1
  simp only at lp lg lb
  have wfa : (Lit.int .i64 a).wf = true := wf_small (by omega)
  obtain ⟨W2, hrun2, hs2, hg2⟩ := (SetB.made Tryz.prog mapK mapE W).put (t := 68) Tryz.underlying3 mapT Tryz.underlying4 wfa (by simp)
  have hW2 : Below w.heap.size w W2 := (hW.alloc hW.size _).grown hg2 (by have := hW.size; simp; omega) (fun k e => by cases e; exact hW.size)
  have hgw : W.grownBy W2 none := ⟨hg2.os, hg2.tape, hg2.output, Nat.le_trans (by simp) hg2.size, fun k hk _ => (hg2.block k (by simp; omega) (fun e => by cases e; omega)).trans (Below.heap_alloc W _ k hk)⟩
  have p0 : W.cell? ⟨bp, 0, none⟩ = some (.int .i64 a) := (hW.cell (p := ⟨bp, 0, none⟩) lp).trans hbp
  have p2 : W2.cell? ⟨bp, 0, none⟩ = some (.int .i64 a) := (hW2.cell (p := ⟨bp, 0, none⟩) lp).trans hbp
  have pl : bp < W.heap.size := Nat.lt_of_lt_of_le lp hW.size
  have hj1 : J [] (W2.alloc (.cells #[.int .i64 a] 3)) ∧ ∀ b, T (W2.alloc (.cells #[.int .i64 a] 3)) b → T W b :=
    HJ.out [] W _ h0 (Chg.trans (Chg.of_grownBy hgw) (Chg.of_below (F := fun _ => False) (grew_al (Below.refl _ _) _)) (fun _ _ e => by cases e) (fun _ _ e => e.elim))
  have hTl := (HT.out [] W h0).2
  have HV : Hid (Trv (cOf' cs) a J T w.heap.size W.heap.size [] [a] [a] [] (.slice (some ⟨W2.heap.size, 0, none⟩) 1 1) (W2.alloc (.cells #[.int .i64 a] 3))) := Lib.hid (by
    refine Trv.start hj1.1 (hs2.grew (grew_al (Below.refl _ _) _)) (fun e => by have := (hTl _ (hj1.2 _ e)).2; omega) (World.ownsRow_lit W2 #[.int .i64 a] 1 hW2.size (by unfold maxLen; omega) rfl) (fun b hb e => ?_)
    simp only [Value.ownBlock, Option.some.injEq] at hb
    subst hb
    have := (hTl _ (hj1.2 _ e)).2
    have := hgw.size
    omega)
  have HW := Lib.hid hW
  have R2 := Lib.hid hrun2
  clear hs2 hg2 hgw hj1 hTl h0 hW hW2 hrun2
  have hmm := @run_makeMap Tryz.prog
  have hrun2 := R2.out
  refine callsIn_of_wp Tryz.func75 rfl trivial ?_ rfl
  simp only [Tryz.ntmps75, List.size_toArray, List.length_cons, List.length_nil, Nat.reduceAdd, Nat.reduceSub, Array.replicate_succ, Array.replicate_zero, List.push_toArray, List.append_toArray, List.nil_append, List.cons_append]
  gi_wp2
  clear p0 p2 hmm hrun2 R2 pl
  gi_loopg [5] cs.length (fun k v wr => ∃ pre st sn, Trv (cOf' cs) a J T w.heap.size W.heap.size pre st sn [] v wr ∧ cs.length - pre.length ≤ k)
  case atStart => exact ⟨[], [a], [a], HV.out, by simp⟩
  case round =>
    clear HV
    obtain ⟨pre, st, sn, ht, hk⟩ := hrel
    have hTv := HT.out pre wr ht.j
    have hlen := ht.d.len HG.out ha
    have hbd := fun x hx => ht.d.bd HG.out ha (x := x) hx
    rcases List.eq_nil_or_concat st with rfl | ⟨st0, x, rfl⟩
    · obtain ⟨A, cap, rfl⟩ := owns_slice ht.o
      have HD := Lib.hid ht.d.done
      have HJ1 := Lib.hid ht.j
      clear ht hTv hlen hk hbd
      gi_wp2
      go_end0
      exact ⟨⟨_, rfl⟩, pre, HD.out, HJ1.out⟩
    · rw [List.concat_eq_append] at ht hlen hbd
      obtain ⟨A, cap, rfl⟩ := owns_slice ht.o
      have hxb := hbd x (.inr (.inl (by simp)))
      clear hbd
      obtain ⟨kx, rfl⟩ := Int.eq_ofNat_of_zero_le hxb.1
      have hkx : kx < cs.length := by omega
      obtain ⟨g, hA⟩ : ∃ g, A = some ⟨g, 0, none⟩ := by
        rcases ht.o.2 with ⟨hv, h0⟩ | ⟨g, cap', cur, hv, _⟩
        · simp at h0
        · simp only [Value.slice.injEq] at hv
          exact ⟨g, hv.1⟩
      subst hA
      have hcap := (owns_cap ht.o).1
      have hcapm := (owns_cap ht.o).2
      have hcx : wr.cell? ⟨g, st0.length, none⟩ = some (.int .i64 kx) := by
        have := ht.o.cellAt st0.length (by simp)
        rw [this, ints_append, List.getElem?_append_right (by simp [ints])]
        simp [ints]
      simp only [List.length_append, List.length_cons, List.length_nil, Nat.zero_add] at ht hlen hcap
      obtain ⟨fn, tmps, assign, body, hy, hR⟩ := HY.out pre kx wr ht.j (by omega)
      dsimp only [encZ] at hy
      have hq : st0.length ≤ 900 := by omega
      obtain ⟨rb, roff, row, ra, rc, hca, hrow, hrcell, hrd, hrl, hrm⟩ := rdLL_at HR.out hkx
      subst hca
      have lrb := World.block_lt_of_cell? w _ hrcell
      simp only at lrb
      have HX := Lib.hid (cOf_get hrow)
      have HRD := Lib.hid hrd
      have HT0 := Lib.hid ht
      clear ht hTv hrow hrd
      have hk2 := Lib.hid hk
      clear hk
      obtain ⟨q, hq'⟩ : ∃ q, st0.length = q := ⟨_, rfl⟩
      have HQ := Lib.hid hq'
      rw [hq'] at hcap hcx hq hlen
      have HT1 : Hid (Trv (cOf' cs) a J T w.heap.size W.heap.size pre (st0 ++ [(kx : Int)]) sn [] (.slice (some ⟨g, 0, none⟩) (q + 1) cap) wr) := Lib.hid (by have := HT0.out; rwa [hq'] at this)
      rw [show (st0 ++ [(kx : Int)]).length = q + 1 from by rw [List.length_append, hq']; rfl]
      clear hq' HT0
      gi_wp2
      refine hR.mono ?_
      clear hR hy
      rintro e W3 ⟨rfl, hj3, hc3, ht3⟩
      have HV3 : Hid (Trv (cOf' cs) a J T w.heap.size W.heap.size (pre ++ [(kx : Int)]) st0 sn row (.slice (some ⟨g, 0, none⟩) q cap) W3) := Lib.hid (by
        have h := HT1.out
        rw [← HQ.out] at h ⊢
        rw [← HX.out]
        exact Trv.yielded (w0 := w) HT.out h hj3 hc3 ht3)
      have hW3 := (HT.out _ _ hj3).1
      clear hj3 hc3 ht3 HT1
      have b3 : W3.cell? ⟨bg, 0, none⟩ = some (.pointer (some ⟨gb, 0, none⟩)) := (hW3.cell (p := ⟨bg, 0, none⟩) lg).trans hbg
      have g3 : W3.cell? ⟨gb, 1, none⟩ = some (.slice (some ⟨rb, roff, none⟩) cs.length cc) := (hW3.cell (p := ⟨gb, 1, none⟩) lb).trans hg1
      have r3 : W3.cell? ⟨rb, roff + kx, none⟩ = some (.slice ra row.length rc) := (hW3.cell (p := ⟨rb, roff + kx, none⟩) lrb).trans hrcell
      have hr9 : row.length ≤ 9223372036854775807 := by unfold maxLen at hrm; omega
      clear hW3
      gi_wp2
      clear b3 g3 r3
      gi_loopw [5, 40] (fun v i wr => ∃ (k : Nat) (st sn : List Int), k ≤ row.length ∧ i = .int .i64 k ∧ Trv (cOf' cs) a J T w.heap.size W.heap.size (pre ++ [(kx : Int)]) st sn (row.drop k) v wr) (fun _ i _ => row.length - (Go.RowKit.intOf i).toNat)
      case atStart => exact ⟨0, st0, sn, Nat.zero_le _, rfl, by have h := HV3.out; rw [← HQ.out] at h; rw [← HQ.out]; exact h⟩
      case round =>
        clear HV3
        obtain ⟨k, st, sn, hk, rfl, ht⟩ := hrel
        have hwr := (HT.out _ _ ht.j).1
        by_cases hlt : k < row.length
        · obtain ⟨b, off, y, rfl, hy, hcell⟩ := (HRD.out.mono (fun b o u hu _ => (hwr.cell (p := ⟨b, o, none⟩) (World.block_lt_of_cell? w _ hu)).trans hu) : Rd wr ra row.length 1 (ints .i64 row)).at1 hlt
          have hdrop : row.drop k = y :: row.drop (k + 1) := by
            rw [List.drop_eq_getElem_cons hlt]
            congr 1
            exact Option.some.inj ((List.getElem?_eq_getElem hlt).symm.trans hy)
          rw [hdrop] at ht
          have hyb := ht.d.bd HG.out ha (x := y) (.inr (.inr (by simp)))
          have hln := ht.d.len HG.out ha
          have hsn := ht.sz
          have wfy : (Lit.int .i64 y).wf = true := wf_small (by omega)
          have hL := ht.s.look (t := 68) Tryz.underlying3 mapT Tryz.underlying4 (by kernel_rfl) wfy
          clear hy hdrop hwr
          by_cases hin : y ∈ sn
          · have HT2 := Lib.hid (ht.skip hin)
            rw [decide_eq_true hin] at hL
            clear ht hin
            gi_wp2
            go_roundw
            case rel => exact ⟨k + 1, st, sn, by omega, by go_num, HT2.out⟩
            case measure => simp [Go.RowKit.intOf]; omega
          · rw [decide_eq_false hin] at hL
            obtain ⟨w2, hr2, s2, g2⟩ := ht.s.put (t := 68) Tryz.underlying3 mapT Tryz.underlying4 wfy (by omega)
            have o2 := owns_chg ht.o (Chg.of_grownBy g2) (fun b hb e => map_ne_row ht.s ht.o (by rw [hb, Option.some.inj e]))
            obtain ⟨v3, w3, hr3, o3, g3, hv3⟩ := owns_append_lit (P := Tryz.prog) w2 intEl o2 1 [.int .i64 y] rfl (by simp [Value.oneCell']) (by omega) (by omega) (by have := g2.size; have := (ht.o.lt); have h5 := (HT.out _ _ ht.j).1.size; omega)
            have HT2 := Lib.hid (Trv.push HT.out HJ.out (Nat.le_refl _) HW.out.size ht hin s2 g2 o3 g3 hv3)
            obtain ⟨A, cap2, rfl⟩ := owns_slice ht.o
            have R3 := Lib.hid hr3
            clear ht hin s2 g2 o2 o3 g3 hv3 hr3
            gi_wp2_with (gi_at_builtin; refine wpListIn_append_run rfl _ _ rfl rfl rfl rfl R3.out ?_)
            go_roundw
            case rel => exact ⟨k + 1, st ++ [y], y :: sn, by omega, by go_num, HT2.out⟩
            case measure => simp [Go.RowKit.intOf]; omega
        · obtain rfl : k = row.length := by omega
          rw [List.drop_length] at ht
          have HT2 := Lib.hid ht
          clear ht hwr
          gi_wp2
          gi_roundg (cs.length - (pre ++ [(kx : Int)]).length)
          case measure => have := hk2.out; simp; omega
          case rel => exact ⟨_, st, sn, HT2.out, Nat.le_refl _⟩
end Go.Proofs.YtmcfengnihomcaaGreat

/- Rows of numbers as answers: what the laws' walks use of them. No condition. -/
namespace Go.Proofs.YtmcfengnihomcaaGreat
open Go.RowKit
set_option linter.unusedVariables false

/-- The answer: a row of numbers of the call's own. -/
def RetIs (L : List Int) (w : World) (e : Ending) (w' : World) : Prop := ∃ a c, e = .returned (.slice a L.length c) ∧ w'.ownsRow w.heap.size 3 1 (.slice a L.length c) L.length (ints .i64 L) ∧ Grew w w'
theorem retIs_of {P : Program} {f : FuncId} {args : Array Value} {w : World} {L S : List Int} (h : Calls P f args w fun e w' => RetIs L w e w') (hS : L = S) : Calls P f args w fun e w' => RetIs S w e w' := hS ▸ h
theorem eqIntG (a : Option Addr) (n cap : Nat) (a' : Option Addr) (n' cap' : Nat) (zs ys : List Int) (w : World) (hr : Rd w a n 1 (ints .i64 zs)) (hr' : Rd w a' n' 1 (ints .i64 ys))
    (hm : n ≤ 140737488351232) (hm' : n' ≤ 140737488351232) :
    Calls Tryz.prog 9 #[.slice a n cap, .slice a' n' cap'] w fun e w' => e = .returned (.bool (decide (zs = ys))) ∧ Grew w w' :=
  (eqIntS a n cap zs a' n' cap' ys w hr hr' hm hm').mono fun e w' ⟨he, q, hq⟩ => ⟨he, by rw [hq]; exact grew_drewN _ q⟩
theorem heldIntG (a : Option Addr) (n cap : Nat) (k0 : Nat) (w : World) (hr : Rd w a n 1 (markI k0 (n * 1))) (hk0 : k0 ≤ 1099511627776) (hm : n ≤ 1099511627776) :
    Calls Tryz.prog 13 #[.slice a n cap, .int .i64 k0] w fun e w' => e = .returned (.int .i64 ((k0 + n * 1 : Nat) : Int)) ∧ Grew w w' :=
  (heldIntS a n cap k0 w hr hk0 hm).mono fun e w' ⟨he, hw⟩ => ⟨he, by rw [← hw]; exact Below.refl _ _⟩
end Go.Proofs.YtmcfengnihomcaaGreat

/- The call graph, the program's side: what can be come to from a procedure, and its part. No condition. -/
namespace Go.Proofs.YtmcfengnihomcaaGreat
open Go.RowKit Go.Shelf Go.Maps
set_option linter.unusedVariables false
set_option linter.unusedSimpArgs false
attribute [local go_sem] ext_cell ext_frozen ext_lt ext_le ext_le1 lt_s2 lt_s3 lt_s4 lt_s5 lt_s6 ext_lt1 ext_lt2 ext_lt3

/-- An index is found just if so. -/
def RetIx (b : Bool) (w : World) (e : Ending) (w' : World) : Prop := ∃ z : Int, e = .returned (.int .i64 z) ∧ decide (0 ≤ z) = b ∧ w = w'
theorem indexInt (a : Option Addr) (n cap : Nat) (zs : List Int) (x : Int) (w : World) (hr : Rd w a n 1 (ints .i64 zs)) (hn : n ≤ 9223372036854775807) :
    Calls Tryz.prog 76 #[.slice a n cap, .int .i64 x] w (RetIx (decide (x ∈ zs)) w) := by
  have HL := Lib.hid hr.len1
  have HR := Lib.hid hr; clear hr
  go_enter Tryz.func76, Tryz.ntmps76
  go_wp2
  go_loop [8] (fun i => ∃ k : Nat, k ≤ n ∧ i = .int .i64 k ∧ ¬ x ∈ zs.take k) (fun i => n - (Go.RowKit.intOf i).toNat)
  case atStart => exact ⟨0, Nat.zero_le _, rfl, by simp⟩
  case round =>
    obtain ⟨k, hk, rfl, hall⟩ := hrel
    have HA := Lib.hid hall; clear hall
    by_cases hlt : k < n
    · obtain ⟨b, off, z0, rfl, hx, c0⟩ := HR.out.at1 hlt
      have HX := Lib.hid hx; clear hx
      by_cases hq : x = z0
      · subst hq
        have b1 : (x == x) = true := by simp
        go_wp2
        go_ret
        refine ⟨k, rfl, ?_, rfl⟩
        rw [decide_eq_true (by omega), decide_eq_true (List.mem_of_getElem? HX.out)]
      · have b1 : (x == z0) = false := by simp [hq]
        have HQ := Lib.hid hq; clear hq
        go_wp2
        go_round
        case rel =>
          refine ⟨k + 1, by omega, by go_num, fun hz => ?_⟩
          rw [take_get HX.out] at hz
          rcases List.mem_append.1 hz with hz | hz
          · exact HA.out hz
          · exact HQ.out (List.mem_singleton.1 hz)
        case measure => simp [Go.RowKit.intOf]; omega
    · go_wp2
      go_ret
      refine ⟨-1, rfl, ?_, rfl⟩
      rw [decide_eq_false (by omega), decide_eq_false]
      have := HA.out
      rwa [List.take_of_length_le (by have := HL.out; omega)] at this
theorem containsInt (a : Option Addr) (n cap : Nat) (zs : List Int) (x : Int) (w : World) (hr : Rd w a n 1 (ints .i64 zs)) (hn : n ≤ 9223372036854775807) :
    Calls Tryz.prog 58 #[.slice a n cap, .int .i64 x] w fun e w' => e = .returned (.bool (decide (x ∈ zs))) ∧ w = w' := by
  have C := Lib.hid (indexInt a n cap zs x w hr hn)
  clear hr
  go_enter Tryz.func58, Tryz.ntmps58
  go_wp2_with fail
  refine C.out.mono ?_
  rintro e w1 ⟨z, rfl, hz, rfl⟩
  have HZ := Lib.hid hz; clear hz
  go_wp2
  go_ret
  exact ⟨by rw [← HZ.out]; rfl, rfl⟩

/-- A graph in memory: its calls. -/
structure Gr (w : World) (gb : Nat) (cs : List (List Int)) : Prop where
  c : ∃ ca cc, w.cell? ⟨gb, 1, none⟩ = some (.slice ca cs.length cc) ∧ RdLL w ca cs.length cs ∧ cs.length ≤ cc
  ok : Gok cs
  sz : cs.length ≤ 900
theorem Gr.grew {w w' : World} {gb : Nat} {cs : List (List Int)} (h : Gr w gb cs) (g : Grew w w') : Gr w' gb cs := by
  obtain ⟨⟨ca, cc, h1, h2, h3⟩, h4, h5⟩ := h
  exact ⟨⟨ca, cc, (g.cell (p := ⟨gb, 1, none⟩) (World.block_lt_of_cell? w _ h1)).trans h1, RdL.grew stays_ints h2 g, h3⟩, h4, h5⟩
theorem traverse (gb : Nat) (a : Int) (w : World) :
    Calls Tryz.prog 57 #[.pointer (some ⟨gb, 0, none⟩), .int .i64 a] w fun e w' => e = .returned (.func (.func 75) #[] #[.pointer (some ⟨w.heap.size + 1, 0, none⟩), .pointer (some ⟨w.heap.size, 0, none⟩)]) ∧
      w' = (w.alloc (.cells #[.pointer (some ⟨gb, 0, none⟩)] 47)).alloc (.cells #[.int .i64 a] 3) := by
  go_enter Tryz.func57, Tryz.ntmps57
  go_wp2
  go_ret
  exact ⟨by simp, by simp⟩
theorem sortsIn (m : Nat) : AnyZI.SortsIn Tryz.prog Tryz.sortedI_ren Fence.wide m :=
  ⟨fun blk off cap ss W hH hblk hsz => callsIn_wide.2 (Tryz.slices_Sort_int blk off cap ss W hH hblk hsz), fun p cap W => callsIn_wide.2 (Tryz.slices_Sort_int_none p cap W)⟩
set_option maxHeartbeats 1000000 in
theorem sortedTrav (gb bp bg : Nat) (a : Int) (cs : List (List Int)) (w : World) (h : Gr w gb cs) (ha : 0 ≤ a ∧ a < cs.length) (hbp : w.cell? ⟨bp, 0, none⟩ = some (.int .i64 a)) (hbg : w.cell? ⟨bg, 0, none⟩ = some (.pointer (some ⟨gb, 0, none⟩))) :
    Calls Tryz.prog 56 #[.func (.func 75) #[] #[.pointer (some ⟨bp, 0, none⟩), .pointer (some ⟨bg, 0, none⟩)]] w (RetIs (reachL (cOf' cs) cs.length a) w) := by
  obtain ⟨⟨ca, cc, h1, h2, h3⟩, hG, hn⟩ := h
  have hseq := trav_own 2 (by omega) bp bg gb a cs ca cc w hbp hbg h1 h2 hG ha hn
  have cS : Calls Tryz.prog 56 #[.func (.func 75) #[] #[.pointer (some ⟨bp, 0, none⟩), .pointer (some ⟨bg, 0, none⟩)]] w _ :=
    callsIn_wide.1 (sorted2 Tryz.sortedI Fence.wide 5 trivial trivial trivial trivial rfl (by omega) (sortsIn _) (enters_of Tryz.func54 (by kernel_rfl) rfl) 75 #[.pointer (some ⟨bp, 0, none⟩), .pointer (some ⟨bg, 0, none⟩)] trivial (enters_of Tryz.func75 (by kernel_rfl) rfl)
      _ cs.length (by unfold maxLen; omega) (by omega) (fun ss hS => srt_len cs.length ss hS.1 (fun x hx => rch_bd hG ha ((hS.2 x).1 hx))) w hseq)
  refine cS.mono ?_
  rintro e w' ⟨v, ss, rfl, hS, ho, hb⟩
  have e1 : ss.mergeSort (fun x y => decide (x ≤ y)) = reachL (cOf' cs) cs.length a := reach_of_dfs hG ha hS
  rw [e1] at ho
  have hl : ss.length = (reachL (cOf' cs) cs.length a).length := by rw [← e1]; simp
  rw [hl] at ho
  obtain ⟨A, c, rfl⟩ := owns_slice ho
  exact ⟨A, c, rfl, ho, hb⟩
set_option maxHeartbeats 1000000 in
theorem reached (gb : Nat) (a : Int) (cs : List (List Int)) (w : World) (h : Gr w gb cs) (ha : 0 ≤ a ∧ a < cs.length) :
    Calls Tryz.prog 35 #[.pointer (some ⟨gb, 0, none⟩), .int .i64 a] w (RetIs (reachL (cOf' cs) cs.length a) w) := by
  have HG := Lib.hid h; clear h
  go_enter Tryz.func35, Tryz.ntmps35
  go_wp2_with fail
  refine (traverse gb a _).mono ?_
  rintro e w1 ⟨rfl, rfl⟩
  have hg : Grew w ((w.alloc (.cells #[.pointer (some ⟨gb, 0, none⟩)] 47)).alloc (.cells #[.int .i64 a] 3)) := by repeat (first | with_reducible exact Below.refl _ _ | with_reducible assumption | with_reducible apply grew_ext | with_reducible apply grew_al | with_reducible apply grew_dn | with_reducible apply grew_d | (with_reducible refine grew_set ?_ (by first | omega | (repeat (first | with_reducible exact Nat.le_refl _ | with_reducible apply le_pl | with_reducible apply le_ext | with_reducible apply le_al))) _))
  have C := Lib.hid (sortedTrav gb (w.heap.size + 1) w.heap.size a cs _ (HG.out.grew hg) ha (by simp [go_sem]) (by simp [go_sem]))
  have HB := Lib.hid hg; clear hg
  go_wp2_with fail
  refine C.out.mono ?_
  rintro e w2 ⟨A, c, rfl, ho, g2⟩
  have HO := Lib.hid (owns_mono ho (show w.heap.size ≤ _ from by simp; omega))
  have H2 := Lib.hid (grew_tr HB.out g2)
  clear ho g2
  go_wp2
  go_ret
  exact ⟨A, c, rfl, HO.out, H2.out⟩

set_option maxHeartbeats 2000000 in
theorem grPart (gb : Nat) (a : Int) (cs : List (List Int)) (w : World) (h : Gr w gb cs) (ha : 0 ≤ a ∧ a < cs.length) :
    Calls Tryz.prog 36 #[.pointer (some ⟨gb, 0, none⟩), .int .i64 a] w (RetIs (partL (cOf' cs) cs.length a) w) := by
  have hR := reachL_spec h.ok ha
  have hbd : ∀ x, x ∈ reachL (cOf' cs) cs.length a → 0 ≤ x ∧ x < cs.length := fun x hx => rch_bd h.ok ha ((hR.2 x).1 hx)
  have hlen := srt_len _ _ (srt_nodup hR.1) hbd
  have hsz := h.sz
  have HG := Lib.hid h; clear h hR
  have HB := Lib.hid hbd; clear hbd
  go_enter Tryz.func36, Tryz.ntmps36
  go_wp2_with fail
  refine (reached gb a cs w HG.out ha).mono ?_
  rintro e w1 ⟨A, c, rfl, o1, g1⟩
  have HO := Lib.hid o1; clear o1
  have HG1 := Lib.hid g1; clear g1
  obtain ⟨L, hL⟩ : ∃ L, reachL (cOf' cs) cs.length a = L := ⟨_, rfl⟩
  have HL := Lib.hid hL
  have HP : Hid (partL (cOf' cs) cs.length a = L.filter fun o => decide (a ∈ reachL (cOf' cs) cs.length o)) := Lib.hid (by rw [partL, hL])
  rw [hL] at HO HB hlen ⊢
  clear hL
  have R1 := Lib.hid (owns_rd HO.out)
  go_wp2
  go_loopw [5, 12] (fun v i wr => ∃ k : Nat, k ≤ L.length ∧ i = .int .i64 k ∧ Grew w1 wr ∧ wr.ownsRow w1.heap.size 3 1 v ((L.take k).filter fun o => decide (a ∈ reachL (cOf' cs) cs.length o)).length (ints .i64 ((L.take k).filter fun o => decide (a ∈ reachL (cOf' cs) cs.length o)))) (fun _ i _ => L.length - (Go.RowKit.intOf i).toNat)
  case atStart => exact ⟨0, Nat.zero_le _, rfl, Below.refl _ _, by simpa [ints] using World.ownsRow_nil _ _ _ _⟩
  case round =>
    obtain ⟨k, hk, rfl, hg, ho⟩ := hrel
    obtain ⟨oa, oc, rfl⟩ := owns_slice ho
    have hfl : ((L.take k).filter fun o => decide (a ∈ reachL (cOf' cs) cs.length o)).length ≤ 900 := Nat.le_trans (List.length_filter_le _ _) (Nat.le_trans (List.length_take_le _ _) (by omega))
    by_cases hlt : k < L.length
    · obtain ⟨b, off, x, rfl, hx, hcell⟩ := (R1.out.grew hg).at1 hlt
      have hxb := HB.out x (List.mem_of_getElem? hx)
      have HX := Lib.hid hx; clear hx
      have HO2 := Lib.hid ho; clear ho
      have HG2 := Lib.hid hg; clear hg
      go_wp2_with fail
      refine (reached gb x cs _ (HG.out.grew (grew_tr HG1.out HG2.out)) hxb).mono ?_
      rintro e w3 ⟨A3, c3, rfl, o3, g3⟩
      have R3 := Lib.hid (owns_rd o3)
      have hl3 : (reachL (cOf' cs) cs.length x).length ≤ 9223372036854775807 := by
        have := srt_len _ _ (srt_nodup (reachL_spec HG.out.ok hxb).1) (fun y hy => rch_bd HG.out.ok hxb (((reachL_spec HG.out.ok hxb).2 y).1 hy))
        omega
      have C := fun (_ : Nat) => containsInt A3 _ c3 (reachL (cOf' cs) cs.length x) a w3 R3.out hl3
      have HO3 := Lib.hid (owns_grew HO2.out g3)
      have HG3 := Lib.hid (grew_tr HG2.out g3)
      have hft : Hid ((L.take (k + 1)).filter (fun o => decide (a ∈ reachL (cOf' cs) cs.length o)) = (L.take k).filter (fun o => decide (a ∈ reachL (cOf' cs) cs.length o)) ++ if a ∈ reachL (cOf' cs) cs.length x then [x] else []) := Lib.hid (by
        rw [take_get HX.out, List.filter_append]
        congr 1
        by_cases h : a ∈ reachL (cOf' cs) cs.length x <;> simp [h])
      clear o3 g3 hl3
      by_cases hin : a ∈ reachL (cOf' cs) cs.length x
      · rw [decide_eq_true hin] at C
        have HF := hft.out
        rw [if_pos hin] at HF
        have HF := Lib.hid HF
        have HC := Lib.hid C; clear C hft hin
        obtain ⟨v4, w4, hr4, o4, g4, hv4⟩ := owns_append_lit (P := Tryz.prog) w3 intEl HO3.out 1 [.int .i64 x] rfl (by simp [Value.oneCell']) (by omega) (by omega) HG3.out.size
        have R4 := Lib.hid hr4
        have HO4 := Lib.hid o4
        have HG4 := Lib.hid (show Grew w1 w4 from HG3.out.grown g4 HG3.out.size (fun j hj => (HO3.out.lt j hj).1))
        clear hr4 o4 g4 hv4
        go_wp2_with (first | ((with_reducible refine (HC.out 0).mono ?_); rintro e w' ⟨rfl, rfl⟩) | (at_builtin; refine wpList_append_run rfl _ _ rfl rfl rfl rfl R4.out ?_))
        go_roundw
        case rel => exact ⟨k + 1, by omega, by go_num, HG4.out, by rw [HF.out, ints_append, List.length_append]; exact HO4.out⟩
        case measure => simp [Go.RowKit.intOf]; omega
      · rw [decide_eq_false hin] at C
        have HF := hft.out
        rw [if_neg hin, List.append_nil] at HF
        have HF := Lib.hid HF
        have HC := Lib.hid C; clear C hft hin
        go_wp2_with ((with_reducible refine (HC.out 0).mono ?_); rintro e w' ⟨rfl, rfl⟩)
        go_roundw
        case rel => exact ⟨k + 1, by omega, by go_num, HG3.out, by rw [HF.out]; exact HO3.out⟩
        case measure => simp [Go.RowKit.intOf]; omega
    · obtain rfl : k = L.length := by omega
      rw [List.take_length] at ho
      have HO2 := Lib.hid (owns_mono ho HG1.out.size)
      have HG2 := Lib.hid (grew_tr HG1.out hg); clear ho hg hfl
      go_wp2
      go_ret
      rw [List.take_length, HP.out]
      exact ⟨oa, oc, rfl, HO2.out, HG2.out⟩
end Go.Proofs.YtmcfengnihomcaaGreat

/- The program's call graph is read: what a procedure calls. No condition. -/
namespace Go.Proofs.YtmcfengnihomcaaGreat
open Go.RowKit Go.Shelf Go.Maps
set_option linter.unusedVariables false
set_option linter.unusedSimpArgs false
attribute [local go_sem] ext_cell ext_frozen ext_lt ext_le ext_le1 lt_s2 lt_s3 lt_s4 lt_s5 lt_s6 ext_lt1 ext_lt2 ext_lt3

/-- Whom the steps call, in their order; each once, rising. -/
def callTo (is : List Ins) : List Int := (is.filter fun i => i.op == 10).map Ins.to
def callsL (is : List Ins) : List Int := scomp (callTo is)
theorem callTo_snoc (is : List Ins) (i : Ins) : callTo (is ++ [i]) = callTo is ++ if i.op = 10 then [i.to] else [] := by
  simp only [callTo, List.filter_append, List.map_append]
  congr 1
  by_cases h : i.op = 10 <;> simp [h]
theorem callTo_len (is : List Ins) : (callTo is).length ≤ is.length := by
  simp only [callTo, List.length_map]
  exact List.length_filter_le _ _

set_option maxHeartbeats 2000000 in
theorem callsOf (lo hi : Int) (a : Option Addr) (n cap : Nat) (is : List Ins) (w : World) (hr : RdL EIns 8 w a n is) (hn : n ≤ 1000) :
    Calls Tryz.prog 34 #[.agg #[.int .i64 lo, .int .i64 hi, .slice a n cap]] w (RetIs (callsL is) w) := by
  have HL := Lib.hid hr.len
  have HR := Lib.hid hr; clear hr
  go_enter Tryz.func34, Tryz.ntmps34
  go_wp2
  go_loopw [3, 9] (fun v i wr => ∃ k : Nat, k ≤ n ∧ i = .int .i64 k ∧ Grew w wr ∧ wr.ownsRow w.heap.size 3 1 v (callTo (is.take k)).length (ints .i64 (callTo (is.take k)))) (fun _ i _ => n - (Go.RowKit.intOf i).toNat)
  case atStart => exact ⟨0, Nat.zero_le _, rfl, by repeat (first | with_reducible exact Below.refl _ _ | with_reducible assumption | with_reducible apply grew_ext | with_reducible apply grew_al | with_reducible apply grew_dn | with_reducible apply grew_d | (with_reducible refine grew_set ?_ (by first | omega | (repeat (first | with_reducible exact Nat.le_refl _ | with_reducible apply le_pl | with_reducible apply le_ext | with_reducible apply le_al))) _)), by simpa [ints, callTo] using World.ownsRow_nil _ _ _ _⟩
  case round =>
    obtain ⟨k, hk, rfl, hg, ho⟩ := hrel
    obtain ⟨oa, oc, rfl⟩ := owns_slice ho
    have hcl : (callTo (is.take k)).length ≤ 1000 := Nat.le_trans (callTo_len _) (Nat.le_trans (List.length_take_le _ _) (by omega))
    by_cases hlt : k < n
    · obtain ⟨b, off, op, d, ia, ib, rel, lo', hi', to, rfl, hx, c0, c1, c2, c3, c4, c5, c6, c7, hb⟩ := rdI_at (HR.out.grew stays_ins hg) hlt
      have HX := Lib.hid (show callTo (is.take (k + 1)) = _ from by rw [take_get hx, callTo_snoc]); clear hx
      have HG := Lib.hid hg
      have HO := Lib.hid ho
      by_cases hop : op = 10
      · subst hop
        have HT := HX.out
        dsimp only at HT
        rw [if_pos rfl] at HT
        have HT := Lib.hid HT
        obtain ⟨v4, w4, hr4, o4, g4, hv4⟩ := owns_append_lit (P := Tryz.prog) (wr.alloc (.cells #[.int .i64 10, .int .i64 d, .int .i64 ia, .int .i64 ib, .int .i64 rel, .int .i64 lo', .int .i64 hi', .int .i64 to] 86)) intEl (ho.alloc _) 1 [.int .i64 to] rfl (by simp [Value.oneCell']) (by omega) (by omega) (by have := hg.size; simp; omega)
        simp only [World.size_alloc] at hr4
        have R4 := Lib.hid hr4
        have HO4 := Lib.hid o4
        have HG4 := Lib.hid (show Grew w w4 from (hg.alloc hg.size _).grown g4 (by have := hg.size; simp; omega) (fun j hj => (ho.lt j hj).1))
        clear hr4 o4 g4 hv4 ho hg HX
        go_wp2_with (at_builtin; refine wpList_append_run rfl _ _ rfl rfl rfl rfl R4.out ?_)
        go_roundw
        case rel => exact ⟨k + 1, by omega, by go_num, HG4.out, by rw [HT.out, ints_append, List.length_append]; exact HO4.out⟩
        case measure => simp [Go.RowKit.intOf]; omega
      · have HT := HX.out
        dsimp only at HT
        rw [if_neg hop, List.append_nil] at HT
        have HT := Lib.hid HT
        have b1 : (op == 10) = false := by simp [hop]
        have HG4 := Lib.hid (show Grew w (wr.alloc (.cells #[.int .i64 op, .int .i64 d, .int .i64 ia, .int .i64 ib, .int .i64 rel, .int .i64 lo', .int .i64 hi', .int .i64 to] 86)) from hg.alloc hg.size _)
        have HO4 := Lib.hid (ho.alloc (.cells #[.int .i64 op, .int .i64 d, .int .i64 ia, .int .i64 ib, .int .i64 rel, .int .i64 lo', .int .i64 hi', .int .i64 to] 86))
        clear ho hg HX hop
        go_wp2
        go_roundw
        case rel => exact ⟨k + 1, by omega, by go_num, HG4.out, by rw [HT.out]; exact HO4.out⟩
        case measure => simp [Go.RowKit.intOf]; omega
    · have hfin : is.take k = is := List.take_of_length_le (by have := HL.out; omega)
      rw [hfin] at ho hcl
      have HF := Lib.hid hfin; clear hfin
      have HO := Lib.hid ho; clear ho
      have HG := Lib.hid hg; clear hg
      go_wp2_with fail
      rw [HF.out]
      refine (sortInts w.heap.size oa _ oc (callTo is) wr HO.out (by omega)).mono ?_
      rintro e w1 ⟨rfl, o1, g1⟩
      have BW := Lib.hid (Below.trans HG.out (g1.belowB HG.out.size (fun b hF => (HO.out.lt b hF).1)))
      have O1 := Lib.hid o1; clear o1 g1
      go_wp2_with fail
      refine (compactInts w.heap.size oa _ oc _ w1 O1.out (by omega)).mono ?_
      rintro e w2 ⟨m, hm, rfl, o2, g2⟩
      have e1 : Lib.compact ((callTo is).mergeSort fun x y => decide (x ≤ y)) = callsL is := rfl
      rw [e1] at hm o2
      subst hm
      have BW2 := Lib.hid (BW.out.trans (g2.belowB BW.out.size (fun b hF => (O1.out.lt b hF).1)))
      have O2 := Lib.hid o2; clear o2 g2 O1 BW
      go_wp2
      go_ret
      exact ⟨oa, oc, rfl, O2.out, BW2.out⟩
end Go.Proofs.YtmcfengnihomcaaGreat

/- A block that is known whole. No condition. -/
namespace Go.Proofs.YtmcfengnihomcaaGreat
open Go.RowKit
set_option linter.unusedVariables false

/-! A block that is known whole. -/
def Blk (w : World) (g : Nat) (t : TypeId) (cs : Array Value) : Prop := w.heap[g]? = some (.cells cs t (0, 0))
section
variable {w w' : World} {g : Nat} {t : TypeId} {cs : Array Value}
theorem Blk.lt (h : Blk w g t cs) : g < w.heap.size := by
  rcases Nat.lt_or_ge g w.heap.size with hlt | hge
  · exact hlt
  · unfold Blk at h; rw [Array.getElem?_eq_none hge] at h; cases h
theorem Blk.cell (h : Blk w g t cs) (i : Nat) : w.cell? ⟨g, i, none⟩ = cs[i]? := cell_of_row w g i cs t (0, 0) h
theorem Blk.frozen (h : Blk w g t cs) (i : Nat) : w.frozen? ⟨g, i, none⟩ = false := by
  unfold Blk at h
  simp [World.frozen?, h]
theorem Blk.new (w : World) (t : TypeId) (cs : Array Value) : Blk (w.alloc (.cells cs t)) w.heap.size t cs := heap_alloc_new w _
theorem Blk.grew (h : Blk w g t cs) (hb : Grew w w') : Blk w' g t cs := (hb.block g h.lt).trans h
theorem Blk.alloc (h : Blk w g t cs) (o : Obj) : Blk (w.alloc o) g t cs := (Below.heap_alloc w o g h.lt).trans h
theorem Blk.set_ (h : Blk w g t cs) (i : Nat) (u : Value) : Blk (w.setCell ⟨g, i, none⟩ u) g t (cs.setIfInBounds i u) := by
  unfold Blk at h ⊢
  simp [World.setCell, Array.getElem?_modify, h]
theorem Blk.far (h : Blk w g t cs) {p : Addr} (hp : g ≠ p.block) (u : Value) : Blk (w.setCell p u) g t cs := (Below.heap_setCell w p u g hp).trans h
theorem Blk.chg {F : Nat → Prop} (h : Blk w g t cs) (hb : Chg F w w') (hF : ¬ F g) : Blk w' g t cs := (hb.block g h.lt hF).trans h
end
theorem blk_row_ne {w : World} {g base size n : Nat} {t e : TypeId} {cs : Array Value} {v : Value} {xs : List Value} (h : Blk w g t cs) (ho : w.ownsRow base e size v n xs) (hne : t ≠ e) : v.ownBlock ≠ some g := by
  intro hb
  rcases ho.2 with ⟨rfl, _⟩ | ⟨g', cap, cur, rfl, _, h3, _⟩
  · cases hb
  simp only [Value.ownBlock, Option.some.injEq] at hb
  subst hb
  have h1 : w.heap[g']? = _ := h
  rw [h1] at h3
  simp only [Option.some.injEq, Obj.cells.injEq] at h3
  exact hne h3.2.1
/-- Rows of two types lie in two blocks. -/
theorem row_row_ne {w : World} {B B' size size' n n' : Nat} {e e' : TypeId} {v v' : Value} {xs xs' : List Value} (h : w.ownsRow B e size v n xs) (h' : w.ownsRow B' e' size' v' n' xs') (hne : e ≠ e') {b : Nat} (hb : v.ownBlock = some b) : v'.ownBlock ≠ some b := by
  rcases h.2 with ⟨rfl, _⟩ | ⟨g, cap, cur, rfl, _, h3, _⟩
  · cases hb
  · simp only [Value.ownBlock, Option.some.injEq] at hb
    subst hb
    exact blk_row_ne (h := h3) h' hne
end Go.Proofs.YtmcfengnihomcaaGreat

/- Rows of rows of numbers that the call owns; one more is put behind. No condition. -/
namespace Go.Proofs.YtmcfengnihomcaaGreat
open Go.RowKit
set_option linter.unusedVariables false
set_option linter.unusedSimpArgs false

theorem llInfo : (Tryz.prog.info? 26).map (fun i => (i.zero, i.size, i.bytes)) = some (some (.slice none 0 0), 1, 24) := by kernel_rfl
theorem llEl : El Tryz.prog 44 26 (.slice none 0 0) 1 24 := El.mk' llInfo Tryz.underlying44 rfl (by omega)
/-- A row of rows: it, and each of its rows, are the call's own; no two rows share a block. -/
structure OwnLL (w : World) (B : Nat) (v : Value) (ms : List (List Int × Value)) : Prop where
  row : w.ownsRow B 26 1 v ms.length (ms.map (·.2))
  each : ∀ m, m ∈ ms → w.ownsRow B 3 1 m.2 m.1.length (ints .i64 m.1)
  apart : ms.Pairwise fun m m' => ∀ b, m.2.ownBlock = some b → m'.2.ownBlock ≠ some b
section
variable {w w' : World} {B B' : Nat} {v : Value} {ms : List (List Int × Value)}
theorem OwnLL.nil (w : World) (B : Nat) : OwnLL w B (.slice none 0 0) [] := ⟨World.ownsRow_nil _ _ _ _, fun m hm => (by cases hm), List.Pairwise.nil⟩
theorem OwnLL.chg {F : Nat → Prop} (h : OwnLL w B v ms) (c : Chg F w w') (hF : ∀ b, B ≤ b → b < w.heap.size → ¬ F b) : OwnLL w' B v ms :=
  ⟨owns_chg h.row c (fun b hb => hF b (h.row.lt b hb).1 (h.row.lt b hb).2), fun m hm => owns_chg (h.each m hm) c (fun b hb => hF b ((h.each m hm).lt b hb).1 ((h.each m hm).lt b hb).2), h.apart⟩
theorem OwnLL.grew (h : OwnLL w B v ms) (g : Grew w w') : OwnLL w' B v ms := h.chg (Chg.of_below (F := fun _ => False) g) (fun _ _ _ e => e)
theorem OwnLL.mono (h : OwnLL w B v ms) (hB : B' ≤ B) : OwnLL w B' v ms := ⟨owns_mono h.row hB, fun m hm => owns_mono (h.each m hm) hB, h.apart⟩
/-- A change of a block that is no row of it. -/
theorem OwnLL.one {g : Nat} {t : TypeId} {cs : Array Value} (h : OwnLL w B v ms) (hb : Blk w g t cs) (h1 : t ≠ 26) (h2 : t ≠ 3) (c : Chg (fun b => b = g) w w') : OwnLL w' B v ms :=
  ⟨owns_chg h.row c (fun b e1 e2 => blk_row_ne hb h.row h1 (by rw [e1, e2])), fun m hm => owns_chg (h.each m hm) c (fun b e1 e2 => blk_row_ne hb (h.each m hm) h2 (by rw [e1, e2])), h.apart⟩
theorem OwnLL.map_ {m n : Nat} {ks : List Int} (h : OwnLL w B v ms) (hm : SetB Tryz.prog mapK mapE w m ks) (c : Chg (fun b => b = m) w w') : OwnLL w' B v ms := by
  obtain ⟨n', D, ⟨es, clock, hb, _⟩, _⟩ := hm
  have key : ∀ {e : TypeId} {size n : Nat} {u : Value} {xs : List Value}, w.ownsRow B e size u n xs → ∀ b, u.ownBlock = some b → ¬ b = m := fun ho b e1 e2 => by
    subst e2
    rcases ho.2 with ⟨rfl, _⟩ | ⟨g, cap, cur, rfl, h1, h2, _⟩
    · cases e1
    · simp only [Value.ownBlock, Option.some.injEq] at e1
      subst e1
      rw [hb] at h2
      cases h2
  exact ⟨owns_chg h.row c (key h.row), fun u hu => owns_chg (h.each u hu) c (key (h.each u hu)), h.apart⟩
theorem OwnLL.rd {a : Option Addr} {n c : Nat} (h : OwnLL w B (.slice a n c) ms) (hn : ms.length = n) : RdLL w a n (ms.map (·.1)) := by
  subst hn
  have hr := owns_rd h.row
  refine ⟨by simp, ?_⟩
  rcases hr.2 with e | ⟨b, off, rfl, hc⟩
  · left
    have := congrArg List.length e
    simpa using this
  · refine .inr ⟨b, off, rfl, fun k l hl => ?_⟩
    rw [List.getElem?_map, Option.map_eq_some_iff] at hl
    obtain ⟨m, hm, rfl⟩ := hl
    have ho := h.each m (List.mem_of_getElem? hm)
    obtain ⟨la, lc, hv⟩ := owns_slice ho
    have hcap := owns_cap (by rw [← hv]; exact ho)
    rw [hv] at ho
    refine ⟨[m.2], rfl, fun j u hu => ?_, la, lc, by rw [hv], owns_rd ho, hcap.1, hcap.2⟩
    cases j with
    | zero =>
      simp only [List.getElem?_cons_zero, Option.some.injEq] at hu
      subst hu
      rw [Nat.mul_one, Nat.add_zero]
      exact hc k _ (by simp [hm])
    | succ j => simp at hu
/-- One more row, made since, is put behind. -/
theorem OwnLL.snoc {w0 w1 w2 : World} {v2 u : Value} {l : List Int} (h : OwnLL w0 B v ms) (g : Grew w0 w1) (hu : w1.ownsRow w0.heap.size 3 1 u l.length (ints .i64 l)) (hB : B ≤ w0.heap.size)
    (o2 : w2.ownsRow B 26 1 v2 (ms.length + 1) (ms.map (·.2) ++ [u])) (g2 : w1.grownBy w2 v.ownBlock) : OwnLL w2 B v2 (ms ++ [(l, u)]) := by
  have h1 := h.grew g
  have c2 := Chg.of_grownBy g2
  refine ⟨by rw [List.length_append, List.map_append]; exact o2, fun m hm => ?_, ?_⟩
  · rcases List.mem_append.1 hm with hm | hm
    · exact owns_chg (h1.each m hm) c2 (fun b e1 e2 => row_row_ne (h1.each m hm) h1.row (by decide) e1 e2)
    · obtain rfl : m = (l, u) := by simpa using hm
      exact owns_chg (owns_mono hu hB) c2 (fun b e1 e2 => row_row_ne hu h1.row (by decide) e1 e2)
  · refine List.pairwise_append.2 ⟨h.apart, by simp, fun m hm m' hm' b e1 e2 => ?_⟩
    obtain rfl : m' = (l, u) := by simpa using hm'
    have := ((h.each m hm).lt b e1).2
    have := (hu.lt b e2).1
    omega
/-- The same, where other blocks have changed since. -/
theorem OwnLL.snoc2 {w1 w2 : World} {s : Nat} {v2 u : Value} {l : List Int} (h0 : ∀ m, m ∈ ms → ∀ b, m.2.ownBlock = some b → b < s) (h1 : OwnLL w1 B v ms) (hu : w1.ownsRow s 3 1 u l.length (ints .i64 l)) (hB : B ≤ s)
    (o2 : w2.ownsRow B 26 1 v2 (ms.length + 1) (ms.map (·.2) ++ [u])) (g2 : w1.grownBy w2 v.ownBlock) : OwnLL w2 B v2 (ms ++ [(l, u)]) := by
  have c2 := Chg.of_grownBy g2
  refine ⟨by rw [List.length_append, List.map_append]; exact o2, fun m hm => ?_, ?_⟩
  · rcases List.mem_append.1 hm with hm | hm
    · exact owns_chg (h1.each m hm) c2 (fun b e1 e2 => row_row_ne (h1.each m hm) h1.row (by decide) e1 e2)
    · obtain rfl : m = (l, u) := by simpa using hm
      exact owns_chg (owns_mono hu hB) c2 (fun b e1 e2 => row_row_ne hu h1.row (by decide) e1 e2)
  · refine List.pairwise_append.2 ⟨h1.apart, by simp, fun m hm m' hm' b e1 e2 => ?_⟩
    obtain rfl : m' = (l, u) := by simpa using hm'
    have := h0 m hm b e1
    have := (hu.lt b e2).1
    omega
theorem map_ne_blk {m g : Nat} {ks : List Int} {t : TypeId} {cs : Array Value} (h : SetB Tryz.prog mapK mapE w m ks) (hb : Blk w g t cs) : g ≠ m := by
  obtain ⟨n', D, ⟨es, clock, he, _⟩, _⟩ := h
  rintro rfl
  have hb' : w.heap[g]? = _ := hb
  rw [he] at hb'
  cases hb'
end
end Go.Proofs.YtmcfengnihomcaaGreat

/- The program's call graph is read: calls and parts of a program that is ok. No condition. -/
namespace Go.Proofs.YtmcfengnihomcaaGreat
open Go.RowKit Go.Maps
set_option linter.unusedVariables false
set_option linter.unusedSimpArgs false
attribute [local go_sem] ext_cell ext_frozen ext_lt ext_le ext_le1 lt_s2 lt_s3 lt_s4 lt_s5 lt_s6 ext_lt1 ext_lt2 ext_lt3

theorem step_append_g {P : Program} {ops : Array Oper} {o : Oper} {a : Act} {K : Act → World → Prop} {Q : Exit → Act → World → Prop} {E : Prop} {w w' : World} {v y v' : Value} {t : TypeId} (hgd : o.guard = none) (s x : Operand)
    (ho : o.op = .call { callee := .builtin .append, args := #[s, x], argTypes := #[t, t] }) (hty : o.type = t) (hs : a.eval s = v) (hx : a.eval x = y)
    (hrun : (Builtin.append_ #[t, t] t #[v, y]).run P w = .ok v' w') (h : K (a.put o.dst v') w') :
    if Region.wanted o (yielded ops a.tmps) = true then Oper.wp P o a w K Q else E := by
  have hw : Region.wanted o (yielded ops a.tmps) = true := by simp [Region.wanted, hgd]
  rw [if_pos hw]
  unfold Oper.wp execOp
  simp only [ho, hty, resolve, invoke, builtin, Sem.run_bind, Sem.run_pure, Result.andThen_ok, List.map_toArray, List.map_cons, List.map_nil, hs, hx, hrun]
  exact h
theorem step_call_g {P : Program} {ops : Array Oper} {o : Oper} {a : Act} {K : Act → World → Prop} {Q : Exit → Act → World → Prop} {E : Prop} {w : World} {f : FuncId} {args : Array Value} (hgd : o.guard = none)
    (h : (execOp a.eval o).run P w = .ok (.enter f args) w) (hC : Calls P f args w fun e w' => ∃ v, e = .returned v ∧ K (a.put o.dst v) w') :
    if Region.wanted o (yielded ops a.tmps) = true then Oper.wp P o a w K Q else E := by
  have hw : Region.wanted o (yielded ops a.tmps) = true := by simp [Region.wanted, hgd]
  rw [if_pos hw]
  unfold Oper.wp
  rw [h]
  refine Calls.mono hC ?_
  rintro e w' ⟨v, rfl, hK⟩
  exact hK
theorem chg_cell (w : World) (g o : Nat) (u : Value) : Chg (fun b => b = g) w (w.setCell ⟨g, o, none⟩ u) :=
  ⟨rfl, rfl, rfl, by simp, fun k hk hn => Below.heap_setCell w ⟨g, o, none⟩ u k hn⟩

/-- The calls of a program's procedures. -/
def csOf (ps : List Prc) : List (List Int) := ps.map fun p => callsL p.code
abbrev ptOf (ps : List Prc) : List (List Int) := partsL (cOf' (csOf ps)) ps.length
theorem csOf_len (ps : List Prc) : (csOf ps).length = ps.length := by simp [csOf]
theorem prg_len {ps : List Prc} (h : prgOkB ps = true) : 1 ≤ ps.length ∧ ps.length ≤ 4 := by
  simp only [prgOkB, Bool.and_eq_true, decide_eq_true_eq] at h
  exact h.1
theorem prg_code {ps : List Prc} (h : prgOkB ps = true) {p : Prc} (hp : p ∈ ps) : 1 ≤ p.code.length ∧ p.code.length ≤ 10 ∧ ∀ i, i ∈ p.code → insOkB i ps.length p.code.length = true := by
  simp only [prgOkB, Bool.and_eq_true, decide_eq_true_eq, List.all_eq_true] at h
  have := h.2 p hp
  simp only [prcOkB, Bool.and_eq_true, decide_eq_true_eq, List.all_eq_true] at this
  exact ⟨this.1.1.2.1, this.1.1.2.2, this.1.2⟩
theorem ins_to {i : Ins} {procs size : Int} (h : insOkB i procs size = true) (ho : i.op = 10) : 0 ≤ i.to ∧ i.to < procs := by
  simp only [insOkB, Bool.and_eq_true, tailB, ho] at h
  simpa using h.2
theorem gok_of {ps : List Prc} (h : prgOkB ps = true) : Gok (csOf ps) := by
  intro k x hx
  unfold cOf' at hx
  rw [List.getD_eq_getElem?_getD] at hx
  cases hk : (csOf ps)[k.toNat]? with
  | none => rw [hk] at hx; cases hx
  | some l =>
    rw [hk] at hx
    simp only [Option.getD_some] at hx
    rw [csOf, List.getElem?_map, Option.map_eq_some_iff] at hk
    obtain ⟨p, hp, rfl⟩ := hk
    rw [callsL, scomp_mem, callTo, List.mem_map] at hx
    obtain ⟨i, hi, rfl⟩ := hx
    obtain ⟨hi, ho⟩ := List.mem_filter.1 hi
    rw [csOf_len]
    exact ins_to ((prg_code h (List.mem_of_getElem? hp)).2.2 i hi) (by simpa using ho)
/-- A graph in memory of its own: its calls, its parts. -/
structure GrOwn (w : World) (B gb : Nat) (cs parts : List (List Int)) : Prop where
  ex : ∃ x cv pv cms pms, Blk w gb 51 #[x, cv, pv] ∧ OwnLL w B cv cms ∧ cms.map (·.1) = cs ∧ OwnLL w B pv pms ∧ pms.map (·.1) = parts
  lo : B ≤ gb
  ok : Gok cs
  sz : cs.length ≤ 900
theorem GrOwn.grew {w w' : World} {B gb : Nat} {cs parts : List (List Int)} (h : GrOwn w B gb cs parts) (g : Grew w w') : GrOwn w' B gb cs parts := by
  obtain ⟨⟨x, cv, pv, cms, pms, h1, h2, h3, h4, h5⟩, h6, h7, h8⟩ := h
  exact ⟨⟨x, cv, pv, cms, pms, h1.grew g, h2.grew g, h3, h4.grew g, h5⟩, h6, h7, h8⟩
theorem gr_of {w : World} {B gb : Nat} {x cv pv : Value} {cms : List (List Int × Value)} {cs : List (List Int)} (h1 : Blk w gb 51 #[x, cv, pv]) (h2 : OwnLL w B cv cms) (h3 : cms.map (·.1) = cs) (h7 : Gok cs) (h8 : cs.length ≤ 900) : Gr w gb cs := by
  obtain ⟨ca, cc, rfl⟩ := owns_slice h2.row
  have hl : cms.length = cs.length := by rw [← h3]; simp
  refine ⟨⟨ca, cc, ?_, ?_, ?_⟩, h7, h8⟩
  · rw [← hl]
    exact h1.cell 1
  · rw [← hl, ← h3]
    exact h2.rd rfl
  · rw [← hl]
    exact (owns_cap h2.row).1
theorem GrOwn.gr {w : World} {B gb : Nat} {cs parts : List (List Int)} (h : GrOwn w B gb cs parts) : Gr w gb cs := by
  obtain ⟨⟨x, cv, pv, cms, pms, h1, h2, h3, h4, h5⟩, h6, h7, h8⟩ := h
  exact gr_of h1 h2 h3 h7 h8

theorem readGraphNo (a : Option Addr) (n cap : Nat) (ps : List Prc) (w : World) (hr : RdP w a n ps) (hn : n ≤ 9223372036854775807) (hB : prgOkB ps = false) :
    Calls Tryz.prog 22 #[.agg #[.slice a n cap]] w fun e w' => e = .returned (.tuple #[.pointer none, .bool false]) ∧ Grew w w' := by
  have C := fun W (g : Grew w W) => implPrgOk a n cap ps W (hr.grew g) hn
  rw [hB] at C
  have HC := Lib.hid C; clear C hB hr
  go_enter Tryz.func22, Tryz.ntmps22
  go_wp2_with ((with_reducible refine (HC.out _ (by repeat (first | with_reducible exact Below.refl _ _ | with_reducible assumption | with_reducible apply grew_ext | with_reducible apply grew_al | with_reducible apply grew_dn | with_reducible apply grew_d | (with_reducible refine grew_set ?_ (by first | omega | (repeat (first | with_reducible exact Nat.le_refl _ | with_reducible apply le_pl | with_reducible apply le_ext | with_reducible apply le_al))) _)))).mono ?_); rintro e w' ⟨rfl, g'⟩; (first | obtain ⟨y, rfl⟩ := ext_cold g' | obtain ⟨y, rfl⟩ := ext_col g' | obtain ⟨y, rfl⟩ := ext_of g'); clear g')
  go_ret2
  exact ⟨rfl, by repeat (first | with_reducible exact Below.refl _ _ | with_reducible assumption | with_reducible apply grew_ext | with_reducible apply grew_al | with_reducible apply grew_dn | with_reducible apply grew_d | (with_reducible refine grew_set ?_ (by first | omega | (repeat (first | with_reducible exact Nat.le_refl _ | with_reducible apply le_pl | with_reducible apply le_ext | with_reducible apply le_al))) _))⟩

/-- While the calls are read. -/
structure RG1 (w : World) (gb : Nat) (x : Value) (ps : List Prc) (k : Nat) (wr : World) (cv : Value) (ms : List (List Int × Value)) : Prop where
  b : Blk wr gb 51 #[x, cv, .slice none 0 0]
  o : OwnLL wr w.heap.size cv ms
  m : ms.map (·.1) = csOf (ps.take k)
  g : Grew w wr
theorem RG1.len {w : World} {gb : Nat} {x : Value} {ps : List Prc} {k : Nat} {wr : World} {cv : Value} {ms : List (List Int × Value)} (h : RG1 w gb x ps k wr cv ms) : ms.length ≤ k := by
  have := congrArg List.length h.m
  simp [csOf] at this
  omega
theorem RG1.next {w : World} {gb : Nat} {x : Value} {ps : List Prc} {k : Nat} {wr w5 w6 : World} {cv v6 : Value} {ms : List (List Int × Value)} {p : Prc} {u : Value} (h : RG1 w gb x ps k wr cv ms) (hp : ps[k]? = some p) (hgb : w.heap.size ≤ gb)
    (g5 : Grew wr w5) (o5 : w5.ownsRow wr.heap.size 3 1 u (callsL p.code).length (ints .i64 (callsL p.code))) (o6 : w6.ownsRow w.heap.size 26 1 v6 (ms.length + 1) (ms.map (·.2) ++ [u])) (g6 : w5.grownBy w6 cv.ownBlock) :
    Blk w6 gb 51 #[x, cv, .slice none 0 0] ∧ RG1 w gb x ps (k + 1) (w6.setCell ⟨gb, 1, none⟩ v6) v6 (ms ++ [(callsL p.code, u)]) := by
  have b5 := h.b.grew g5
  have ol5 := h.o.grew g5
  have c6 := Chg.of_grownBy g6
  have b6 : Blk w6 gb 51 #[x, cv, .slice none 0 0] := b5.chg c6 (fun e => blk_row_ne b5 ol5.row (by decide) e)
  have hO6 := OwnLL.snoc h.o g5 o5 h.g.size o6 g6
  refine ⟨b6, b6.set_ 1 _, hO6.one b6 (by decide) (by decide) (chg_cell _ _ _ _), ?_, ?_⟩
  · rw [List.map_append, h.m, take_get hp]
    simp [csOf]
  · exact (((grew_tr h.g g5).grown g6 (grew_tr h.g g5).size (fun j hj => (ol5.row.lt j hj).1)) : Grew w w6).setCell (p := ⟨gb, 1, none⟩) hgb _

/-- While the parts are found. -/
structure RG2 (w : World) (gb : Nat) (x cv : Value) (cms : List (List Int × Value)) (ps : List Prc) (mb : Nat) (L : List Int) (lv : Value) (j : Nat) (wr : World) (pv : Value) (pms : List (List Int × Value)) (sn : List Int) : Prop where
  b : Blk wr gb 51 #[x, cv, pv]
  oc : OwnLL wr w.heap.size cv cms
  op : OwnLL wr w.heap.size pv pms
  mp : pms.map (·.1) = partsP (cOf' (csOf ps)) (csOf ps).length (L.take j)
  s : SetB Tryz.prog mapK mapE wr mb sn
  sm : ∀ y, y ∈ sn ↔ ∃ q, q ∈ partsP (cOf' (csOf ps)) (csOf ps).length (L.take j) ∧ y ∈ q
  sl : sn.length ≤ 1000 * j
  g : Grew w wr
  ro : wr.ownsRow w.heap.size 3 1 lv L.length (ints .i64 L)
  ne : ∀ b, cv.ownBlock = some b → pv.ownBlock ≠ some b
section
variable {w : World} {gb : Nat} {x cv : Value} {cms : List (List Int × Value)} {ps : List Prc} {mb : Nat} {L : List Int} {lv : Value} {j : Nat} {wr : World} {pv : Value} {pms : List (List Int × Value)} {sn : List Int} {y : Int}
theorem RG2.len (h : RG2 w gb x cv cms ps mb L lv j wr pv pms sn) : pms.length ≤ j := by
  have := congrArg List.length h.mp
  simp only [List.length_map, partsP] at this
  have h2 := List.length_filter_le (firstB (cOf' (csOf ps)) (csOf ps).length) (L.take j)
  have h3 := List.length_take_le j L
  omega
theorem RG2.seen (h : RG2 w gb x cv cms ps mb L lv j wr pv pms sn) (hy : L[j]? = some y) (hf : firstB (cOf' (csOf ps)) (csOf ps).length y = false) : RG2 w gb x cv cms ps mb L lv (j + 1) wr pv pms sn := by
  have e : partsP (cOf' (csOf ps)) (csOf ps).length (L.take (j + 1)) = partsP (cOf' (csOf ps)) (csOf ps).length (L.take j) := by
    rw [take_get hy, partsP_snoc, hf]
    simp
  exact ⟨h.b, h.oc, h.op, by rw [e]; exact h.mp, h.s, by rw [e]; exact h.sm, Nat.le_trans h.sl (by omega), h.g, h.ro, h.ne⟩
theorem RG2.step {w4 wv w6 : World} {u v6 : Value} {sn' : List Int} (h : RG2 w gb x cv cms ps mb L lv j wr pv pms sn) (hgb : w.heap.size ≤ gb) (hmb : w.heap.size ≤ mb) (hy : L[j]? = some y) (hf : firstB (cOf' (csOf ps)) (csOf ps).length y = true)
    (g4 : Grew wr w4) (o4 : w4.ownsRow wr.heap.size 3 1 u (partL (cOf' (csOf ps)) (csOf ps).length y).length (ints .i64 (partL (cOf' (csOf ps)) (csOf ps).length y)))
    (cm : Chg (fun b => b = mb) w4 wv) (sv : SetB Tryz.prog mapK mapE wv mb sn') (hs : ∀ z, z ∈ sn' ↔ z ∈ sn ∨ z ∈ partL (cOf' (csOf ps)) (csOf ps).length y) (hsl : sn'.length ≤ sn.length + 1000)
    (o6 : w6.ownsRow w.heap.size 26 1 v6 (pms.length + 1) (pms.map (·.2) ++ [u])) (g6 : wv.grownBy w6 pv.ownBlock) (hv6 : v6.ownBlock = pv.ownBlock ∨ v6.ownBlock = some (wv.heap.size + 1)) :
    Blk w6 gb 51 #[x, cv, pv] ∧ RG2 w gb x cv cms ps mb L lv (j + 1) (w6.setCell ⟨gb, 2, none⟩ v6) v6 (pms ++ [(partL (cOf' (csOf ps)) (csOf ps).length y, u)]) sn' := by
  have s4 := h.s.grew g4
  have b4 := h.b.grew g4
  have bv := b4.chg cm (map_ne_blk s4 b4)
  have ocv := (h.oc.grew g4).map_ (n := 0) s4 cm
  have opv := (h.op.grew g4).map_ (n := 0) s4 cm
  have hro4 := owns_grew h.ro g4
  have rov := owns_chg hro4 cm (fun b e1 e2 => map_ne_row s4 hro4 (by rw [e1, e2]))
  have uv := owns_chg o4 cm (fun b e1 e2 => map_ne_row s4 o4 (by rw [e1, e2]))
  have gv : Grew w wv := (grew_tr h.g g4).trans ⟨cm.os, cm.tape, cm.output, cm.size, fun k hk => cm.block k (Nat.lt_of_lt_of_le hk (grew_tr h.g g4).size) (by omega)⟩
  have c6 := Chg.of_grownBy g6
  have b6 : Blk w6 gb 51 #[x, cv, pv] := bv.chg c6 (fun e => blk_row_ne bv opv.row (by decide) e)
  have oc6 : OwnLL w6 w.heap.size cv cms := ⟨owns_chg ocv.row c6 (fun b e1 e2 => h.ne b e1 e2), fun m hm => owns_chg (ocv.each m hm) c6 (fun b e1 e2 => row_row_ne (ocv.each m hm) opv.row (by decide) e1 e2), ocv.apart⟩
  have op6 : OwnLL w6 w.heap.size v6 (pms ++ [(partL (cOf' (csOf ps)) (csOf ps).length y, u)]) := OwnLL.snoc2 (fun m hm b e => ((h.op.each m hm).lt b e).2) opv uv h.g.size o6 g6
  have s6 : SetB Tryz.prog mapK mapE w6 mb sn' := sv.chg c6 (fun e => by
    obtain ⟨n', D, ⟨es, clock, he, _⟩, _⟩ := sv
    rcases opv.row.2 with ⟨e1, _⟩ | ⟨g, cap, cur, e1, h1, h2, _⟩
    · rw [e1] at e; cases e
    · rw [e1] at e
      simp only [Value.ownBlock, Option.some.injEq] at e
      subst e
      rw [he] at h2
      cases h2)
  have ro6 := owns_chg rov c6 (fun b e1 e2 => row_row_ne rov opv.row (by decide) e1 e2)
  have cs := chg_cell w6 gb 2 v6
  have e : partsP (cOf' (csOf ps)) (csOf ps).length (L.take (j + 1)) = partsP (cOf' (csOf ps)) (csOf ps).length (L.take j) ++ [partL (cOf' (csOf ps)) (csOf ps).length y] := by
    rw [take_get hy, partsP_snoc, hf]
    rfl
  refine ⟨b6, b6.set_ 2 _, oc6.one b6 (by decide) (by decide) cs, op6.one b6 (by decide) (by decide) cs, by rw [List.map_append, h.mp, e]; rfl, s6.chg cs (fun e => map_ne_blk s6 b6 e.symm), fun z => ?_, by have := h.sl; omega, ?_, owns_chg ro6 cs (fun b e1 e2 => blk_row_ne b6 ro6 (by decide) (by rw [e1, e2])), fun b e1 e2 => ?_⟩
  · rw [hs, h.sm, e]
    simp only [List.mem_append, List.mem_singleton]
    constructor
    · rintro (⟨q, hq, hz⟩ | hz)
      · exact ⟨q, .inl hq, hz⟩
      · exact ⟨_, .inr rfl, hz⟩
    · rintro ⟨q, hq | rfl, hz⟩
      · exact .inl ⟨q, hq, hz⟩
      · exact .inr hz
  · exact ((gv.grown g6 gv.size (fun k hk => (opv.row.lt k hk).1)) : Grew w w6).setCell (p := ⟨gb, 2, none⟩) hgb _
  · rcases hv6 with hv | hv
    · exact h.ne b e1 (by rw [← hv]; exact e2)
    · rw [hv, Option.some.injEq] at e2
      have := (ocv.row.lt b e1).2
      omega
end

set_option maxRecDepth 100000 in
set_option maxHeartbeats 4000000 in
theorem readGraphYes (a : Option Addr) (n cap : Nat) (ps : List Prc) (w : World) (hr : RdP w a n ps) (hn : n ≤ 9223372036854775807) (hB : prgOkB ps = true) :
    Calls Tryz.prog 22 #[.agg #[.slice a n cap]] w fun e w' => ∃ gb, e = .returned (.tuple #[.pointer (some ⟨gb, 0, none⟩), .bool true]) ∧ GrOwn w' w.heap.size gb (csOf ps) (ptOf ps) ∧ Grew w w' := by
  have C := fun W (g : Grew w W) => implPrgOk a n cap ps W (hr.grew g) hn
  rw [hB] at C
  have HC := Lib.hid C; clear C
  have hl := hr.len
  have hn4 := prg_len hB
  rw [hl] at hn4
  have HB := Lib.hid hB; clear hB
  have HL := Lib.hid hl; clear hl
  have HR := Lib.hid hr; clear hr
  go_enter Tryz.func22, Tryz.ntmps22
  go_wp2_with fail
  refine (HC.out _ (by repeat (first | with_reducible exact Below.refl _ _ | with_reducible assumption | with_reducible apply grew_ext | with_reducible apply grew_al | with_reducible apply grew_dn | with_reducible apply grew_d | (with_reducible refine grew_set ?_ (by first | omega | (repeat (first | with_reducible exact Nat.le_refl _ | with_reducible apply le_pl | with_reducible apply le_ext | with_reducible apply le_al))) _)))).mono ?_
  rintro e w1 ⟨rfl, g1⟩
  have hb1 : w1.cell? ⟨w.heap.size, 0, none⟩ = some (.slice a n cap) := (g1.cell (p := ⟨w.heap.size, 0, none⟩) (by simp)).trans (by simp [go_sem])
  have hG1 : Grew w w1 := grew_tr (grew_al (Below.refl _ _) _) g1
  have lb1 : w.heap.size < w1.heap.size := Nat.lt_of_lt_of_le (by simp) g1.size
  have H1 := Lib.hid (show RG1 w w1.heap.size (.slice a n cap) ps 0 (w1.alloc (.cells #[.slice a n cap, .slice none 0 0, .slice none 0 0] 51)) (.slice none 0 0) [] from ⟨Blk.new _ _ _, OwnLL.nil _ _, rfl, grew_al hG1 _⟩)
  clear g1 hG1
  obtain ⟨gb, hgb⟩ : ∃ gb, w1.heap.size = gb := ⟨_, rfl⟩
  have HGB := Lib.hid hgb
  have hgl : w.heap.size ≤ gb := by omega
  rw [hgb] at H1
  clear hgb
  go_wp2
  rw [HGB.out]
  clear hb1
  go_loopw [22] (fun i wr => ∃ (k : Nat) (cv : Value) (ms : List (List Int × Value)), k ≤ n ∧ i = .int .i64 k ∧ RG1 w gb (.slice a n cap) ps k wr cv ms) (fun i _ => n - (Go.RowKit.intOf i).toNat)
  case atStart => exact ⟨0, _, [], Nat.zero_le _, rfl, H1.out⟩
  case round =>
    clear H1
    obtain ⟨k, cv, ms, hk, rfl, h⟩ := hrel
    by_cases hlt : k < n
    · obtain ⟨b, off, lo, hi, is, ia, ic, rfl, hx, c0, c1, c2, hbl, hi1, hi2, hi3⟩ := rdP_at (HR.out.grew h.g) hlt
      obtain ⟨A, cp, rfl⟩ := owns_slice h.o.row
      have hml := h.len
      have hcell : wr.cell? ⟨gb, 1, none⟩ = some (.slice A ms.length cp) := h.b.cell 1
      have hglt := h.b.lt
      have hgne : ¬ gb = wr.heap.size := by omega
      have hfz := fun j => h.b.frozen j
      have hcode : is.length ≤ 1000 := by have := (prg_code HB.out (List.mem_of_getElem? hx)).2.1; simp only at this; omega
      have HI := Lib.hid hi1
      have HX := Lib.hid hx
      have HH := Lib.hid h
      clear hi1 hx h
      go_wp2_with fail
      have q0 : (wr.alloc (.cells #[.int .i64 lo, .int .i64 hi, .slice ia is.length ic] 65)).cell? ⟨gb, 1, none⟩ = some (.slice A ms.length cp) := by rw [World.cell?_alloc_old _ _ _ (show ¬ gb = wr.heap.size from hgne)]; exact hcell
      have q1 : (wr.alloc (.cells #[.int .i64 lo, .int .i64 hi, .slice ia is.length ic] 65)).cell? ⟨wr.heap.size, 0, none⟩ = some (.int .i64 lo) := by simp [go_sem]
      have q2 : (wr.alloc (.cells #[.int .i64 lo, .int .i64 hi, .slice ia is.length ic] 65)).cell? ⟨wr.heap.size, 1, none⟩ = some (.int .i64 hi) := by simp [go_sem]
      have q3 : (wr.alloc (.cells #[.int .i64 lo, .int .i64 hi, .slice ia is.length ic] 65)).cell? ⟨wr.heap.size, 2, none⟩ = some (.slice ia is.length ic) := by simp [go_sem]
      have lgb2 : gb < wr.heap.size + 1 := by omega
      clear c0 c1 c2 hfz
      go_region_law (first
        | (refine step_call_g rfl (f := 34) (args := #[.agg #[.int .i64 lo, .int .i64 hi, .slice ia is.length ic]]) (by kernel_rfl) ?_; refine Calls.mono (callsOf lo hi ia is.length ic is _ (HI.out.grew stays_ins (by repeat (first | with_reducible exact Below.refl _ _ | with_reducible assumption | with_reducible apply grew_ext | with_reducible apply grew_al | with_reducible apply grew_dn | with_reducible apply grew_d | (with_reducible refine grew_set ?_ (by first | omega | (repeat (first | with_reducible exact Nat.le_refl _ | with_reducible apply le_pl | with_reducible apply le_ext | with_reducible apply le_al))) _)))) hcode) ?_; rintro e w5 ⟨A5, c5, rfl, o5, g5⟩; refine ⟨_, rfl, ?_⟩
           have hg5 : Grew wr w5 := grew_tr (grew_d (grew_al (Below.refl _ _) _)) g5
           have ho5 := owns_mono o5 (show wr.heap.size ≤ _ from by simp)
           have ol5 := HH.out.o.grew hg5
           obtain ⟨v6, w6, hr6, o6, g6, -⟩ := owns_append_lit (P := Tryz.prog) w5 llEl ol5.row 1 [.slice A5 (callsL is).length c5] rfl (by simp [Value.oneCell']) (by omega) (by omega) (Nat.le_trans HH.out.g.size hg5.size)
           have R6 := Lib.hid hr6
           obtain ⟨b6, n6⟩ := HH.out.next HX.out hgl hg5 ho5 o6 g6
           have N6 := Lib.hid n6
           have t5 : w5.cell? ⟨gb, 1, none⟩ = some (.slice A ms.length cp) := (HH.out.b.grew hg5).cell 1
           have l5 := (HH.out.b.grew hg5).lt
           have n5 : ¬ gb = w5.heap.size := by omega
           have t6 : w6.cell? ⟨gb, 1, none⟩ = some (.slice A ms.length cp) := b6.cell 1
           have f6 := fun j => b6.frozen j
           have l6 := b6.lt
           obtain ⟨A6, c6, rfl⟩ := owns_slice o6
           clear hg5 ho5 ol5 hr6 o6 g6 b6 n6 o5 g5)
        | (refine step_append_g rfl _ _ rfl rfl rfl rfl R6.out ?_))
      all_goals
        go_wp2
        go_roundw
        case rel => exact ⟨k + 1, _, _, by omega, by go_num, N6.out⟩
        case measure => simp [Go.RowKit.intOf]; omega
    · obtain rfl : k = n := by omega
      have hcs : ms.map (·.1) = csOf ps := by rw [h.m, List.take_of_length_le (by have := HL.out; omega)]
      have hokk := gok_of HB.out
      have hsz : (csOf ps).length ≤ 900 := by rw [csOf_len, HL.out]; omega
      have hzl : (csOf ps).length = k := by rw [csOf_len, HL.out]
      obtain ⟨A, cp, rfl⟩ := owns_slice h.o.row
      have hgm : Grew wr (wr.alloc (.map #[] 0)) := grew_al (Below.refl _ _) _
      have HM0 := Lib.hid (SetB.made Tryz.prog mapK mapE wr)
      have HB2 := Lib.hid (h.b.grew hgm)
      have HO2 := Lib.hid (h.o.grew hgm)
      have HG2 := Lib.hid (grew_tr h.g hgm)
      have HGW := Lib.hid h.g
      have HGr := Lib.hid (gr_of (h.b.grew hgm) (h.o.grew hgm) hcs hokk hsz)
      have HZ := Lib.hid hzl
      have HCS := Lib.hid hcs
      have HOK := Lib.hid hokk
      obtain ⟨mb, hmb⟩ : ∃ mb, wr.heap.size = mb := ⟨_, rfl⟩
      have HMB := Lib.hid hmb
      rw [hmb] at HM0
      clear hmb h hcs hokk hzl hgm
      have hmm := @run_makeMap Tryz.prog
      go_wp2_with fail
      rw [HMB.out]
      refine (reached gb 0 (csOf ps) _ HGr.out (by rw [HZ.out]; omega)).mono ?_
      rintro e w3 ⟨A3, c3, rfl, o3, g3⟩
      have HM3 := Lib.hid (HM0.out.grew g3)
      have HB3 := Lib.hid (HB2.out.grew g3)
      have HO3 := Lib.hid (HO2.out.grew g3)
      have HG3 := Lib.hid (grew_tr HG2.out g3)
      obtain ⟨L, hL⟩ : ∃ L, reachL (cOf' (csOf ps)) (csOf ps).length 0 = L := ⟨_, rfl⟩
      rw [hL] at o3
      rw [hL]
      have HRO3 := Lib.hid (owns_mono o3 (Nat.le_trans hgl (Nat.le_of_lt (by have h1 := HB2.out.lt; exact h1))))
      have HL3 := Lib.hid hL
      have hL4 : L.length ≤ 4 := by
        have h1 := reachL_spec HOK.out (a := 0) (by rw [HZ.out]; omega)
        have := srt_len (csOf ps).length _ (srt_nodup h1.1) (fun x hx => rch_bd HOK.out (by rw [HZ.out]; omega) ((h1.2 x).1 hx))
        rw [hL, HZ.out] at this
        omega
      clear hL hmm HM0 HB2 HO2 HG2 HGr g3 o3
      have hmbl : w.heap.size ≤ mb := by rw [← HMB.out]; exact HGW.out.size
      have H2 := Lib.hid (show RG2 w gb (.slice a k cap) (.slice A ms.length cp) ms ps mb L (.slice A3 L.length c3) 0 w3 (.slice none 0 0) [] [] from ⟨HB3.out, HO3.out, OwnLL.nil _ _, by simp [partsP], HM3.out, fun y => by simp [partsP], by simp, HG3.out, HRO3.out, fun b _ e => by cases e⟩)
      clear HM3 HB3 HO3 HG3 HRO3
      have hL9 : L.length ≤ 9223372036854775807 := by omega
      go_wp2
      go_loopw [42] (fun i wr => ∃ (j : Nat) (pv : Value) (pms : List (List Int × Value)) (sn : List Int), j ≤ L.length ∧ i = .int .i64 j ∧ RG2 w gb (.slice a k cap) (.slice A ms.length cp) ms ps mb L (.slice A3 L.length c3) j wr pv pms sn) (fun i _ => L.length - (Go.RowKit.intOf i).toNat)
      case atStart => exact ⟨0, _, [], [], Nat.zero_le _, rfl, H2.out⟩
      case round =>
        clear H2
        obtain ⟨j, pv, pms, sn, hj, rfl, h⟩ := hrel
        by_cases hlt2 : j < L.length
        · obtain ⟨b, off, y, hA3, hy, hcell⟩ := (owns_rd h.ro).at1 hlt2
          subst hA3
          have hyr : y ∈ reachL (cOf' (csOf ps)) (csOf ps).length 0 := by rw [HL3.out]; exact List.mem_of_getElem? hy
          have hyb : 0 ≤ y ∧ y < (csOf ps).length := rch_bd HOK.out (by rw [HZ.out]; omega) (((reachL_spec HOK.out (a := 0) (by rw [HZ.out]; omega)).2 y).1 hyr)
          have hsplit : reachL (cOf' (csOf ps)) (csOf ps).length 0 = L.take j ++ y :: L.drop (j + 1) := by
            rw [HL3.out]
            have e1 := List.drop_eq_getElem_cons hlt2
            have e2 : L[j] = y := Option.some.inj ((List.getElem?_eq_getElem hlt2).symm.trans hy)
            rw [e2] at e1
            rw [← e1, List.take_append_drop]
          have hseen := parts_seen HOK.out (a := y) (l := L.take j) (r := L.drop (j + 1)) (by rw [HZ.out]; omega) hsplit
          have wfy : (Lit.int .i64 y).wf = true := wf_small (by omega)
          have hLk := h.s.look (t := 68) Tryz.underlying3 mapT Tryz.underlying4 (by kernel_rfl) wfy
          have hpl := h.len
          clear hyr hsplit
          cases hf : firstB (cOf' (csOf ps)) (csOf ps).length y
          · have hin : y ∈ sn := (h.sm y).2 (hseen.2 hf)
            rw [decide_eq_true hin] at hLk
            have HN := Lib.hid (h.seen hy hf)
            clear hin hf hseen h hy
            go_wp2
            go_roundw
            case rel => exact ⟨j + 1, _, _, _, by omega, by go_num, HN.out⟩
            case measure => simp [Go.RowKit.intOf]; omega
          · have hin : ¬ y ∈ sn := fun e => by
              have := hseen.1 ((h.sm y).1 e)
              rw [hf] at this
              cases this
            rw [decide_eq_false hin] at hLk
            have HY := Lib.hid hy
            have HF := Lib.hid hf
            have HH := Lib.hid h
            have HGr := Lib.hid (gr_of h.b h.oc HCS.out HOK.out hsz)
            obtain ⟨q1, q2, rfl⟩ := owns_slice h.op.row
            clear hin hf hseen h hy
            go_wp2_with fail
            refine (grPart gb y (csOf ps) _ HGr.out hyb).mono ?_
            rintro e w4 ⟨A4, c4, rfl, o4, g4⟩
            have hPs := part_srt HOK.out hyb
            have hPb : ∀ z, z ∈ partL (cOf' (csOf ps)) (csOf ps).length y → 0 ≤ z ∧ z < (csOf ps).length := fun z hz => rch_bd HOK.out hyb ((part_mem HOK.out hyb z).1 hz).1
            have hPl := srt_len _ _ (srt_nodup hPs) hPb
            replace hPl := Nat.le_trans hPl (show (csOf ps).length ≤ 4 from by rw [HZ.out]; omega)
            obtain ⟨P, hP⟩ : ∃ P, partL (cOf' (csOf ps)) (csOf ps).length y = P := ⟨_, rfl⟩
            have HP := Lib.hid hP
            rw [hP] at o4 hPb hPl
            rw [hP]
            have HPB := Lib.hid hPb
            have O4 := Lib.hid o4
            have G4 := Lib.hid g4
            have S4 := Lib.hid (HH.out.s.grew g4)
            have hsl := HH.out.sl
            have hP9 : P.length ≤ 9223372036854775807 := by omega
            clear hP hPs hPb o4 g4 hcell hLk
            go_wp2
            go_loopw [54] (fun i wv => ∃ (m : Nat) (sn' : List Int), m ≤ P.length ∧ i = .int .i64 m ∧ Chg (fun b => b = mb) w4 wv ∧ SetB Tryz.prog mapK mapE wv mb sn' ∧ (∀ z, z ∈ sn' ↔ z ∈ sn ∨ z ∈ P.take m) ∧ sn'.length ≤ sn.length + m) (fun i _ => P.length - (Go.RowKit.intOf i).toNat)
            case atStart => exact ⟨0, sn, Nat.zero_le _, rfl, Chg.refl _ _, S4.out, fun z => by simp, by omega⟩
            case round =>
              obtain ⟨m, sn', hm, rfl, hcm, hsv, hsm, hsl2⟩ := hrel
              by_cases hlt3 : m < P.length
              · have hov := owns_chg O4.out hcm (fun b e1 e2 => map_ne_row S4.out O4.out (by rw [e1, e2]))
                obtain ⟨b4, off4, z, hA4, hz, hzc⟩ := (owns_rd hov).at1 hlt3
                subst hA4
                have hzb := HPB.out z (List.mem_of_getElem? hz)
                obtain ⟨w5, hr5, s5, g5⟩ := hsv.put (t := 68) (x := z) Tryz.underlying3 mapT Tryz.underlying4 (wf_small (by omega)) (by omega)
                have HN := Lib.hid (show Chg (fun b => b = mb) w4 w5 ∧ SetB Tryz.prog mapK mapE w5 mb (z :: sn') ∧ (∀ z', z' ∈ z :: sn' ↔ z' ∈ sn ∨ z' ∈ P.take (m + 1)) ∧ (z :: sn').length ≤ sn.length + (m + 1) from ⟨hcm.trans (Chg.of_grownBy g5) (fun _ _ e => e) (fun _ _ e => (Option.some.inj e).symm), s5, fun z' => by
                  rw [take_get hz, List.mem_cons, hsm, List.mem_append, List.mem_singleton]
                  constructor
                  · rintro (h | h | h) <;> simp [h]
                  · rintro (h | h | h) <;> simp [h], by simp; omega⟩)
                clear hcm hsv hsm s5 g5 hov hz
                go_wp2
                go_roundw
                case rel => exact ⟨m + 1, z :: sn', by omega, by go_num, HN.out⟩
                case measure => simp [Go.RowKit.intOf]; omega
              · obtain rfl : m = P.length := by omega
                rw [List.take_length] at hsm
                have s4 := S4.out
                have b4 := HH.out.b.grew G4.out
                have bv := b4.chg hcm (map_ne_blk s4 b4)
                have opv := (HH.out.op.grew G4.out).map_ (n := 0) s4 hcm
                have ggv : w.heap.size ≤ wr.heap.size := Nat.le_trans HH.out.g.size (Nat.le_trans G4.out.size hcm.size)
                obtain ⟨v6, w6, hr6, o6, g6, hv6⟩ := owns_append_lit (P := Tryz.prog) wr llEl opv.row 1 [.slice A4 P.length c4] rfl (by simp [Value.oneCell']) (by omega) (by omega) ggv
                obtain ⟨b6, n6⟩ := HH.out.step hgl hmbl HY.out HF.out G4.out (by rw [HP.out]; exact O4.out) hcm hsv (fun z => by rw [HP.out]; exact hsm z) (by omega) o6 g6 hv6
                have N6 := Lib.hid n6
                have R6 := Lib.hid hr6
                have tv : wr.cell? ⟨gb, 2, none⟩ = some (.slice q1 pms.length q2) := bv.cell 2
                have lv := bv.lt
                have t6 : w6.cell? ⟨gb, 2, none⟩ = some (.slice q1 pms.length q2) := b6.cell 2
                have f6 := fun i => b6.frozen i
                have l6 := b6.lt
                obtain ⟨A6, c6, rfl⟩ := owns_slice o6
                clear hcm hsv hsm hr6 o6 g6 hv6 b6 n6 s4 b4 bv opv
                go_wp2_with (at_builtin; refine wpList_append_run rfl _ _ rfl rfl rfl rfl R6.out ?_)
                go_roundw
                case rel => exact ⟨j + 1, _, _, _, by omega, by go_num, N6.out⟩
                case measure => simp [Go.RowKit.intOf]; omega
        · obtain rfl : j = L.length := by omega
          have hmp := h.mp
          rw [List.take_length] at hmp
          have HE := Lib.hid (show GrOwn wr w.heap.size gb (csOf ps) (ptOf ps) from ⟨⟨_, _, _, _, _, h.b, h.oc, HCS.out, h.op, by rw [hmp, ← HL3.out, ptOf, partsL, csOf_len]⟩, hgl, HOK.out, hsz⟩)
          have HG9 := Lib.hid h.g
          clear h hmp
          go_wp2
          go_ret2
          exact ⟨gb, rfl, HE.out, HG9.out⟩
end Go.Proofs.YtmcfengnihomcaaGreat

/- The call graph, the reference's side: what a procedure calls, what can be come to from it, its part. No condition. -/
namespace Go.Proofs.YtmcfengnihomcaaGreat
open Go.RowKit
set_option linter.unusedVariables false
set_option linter.unusedSimpArgs false
attribute [local go_sem] ext_cell ext_frozen ext_lt ext_le ext_le1 lt_s2 lt_s3 lt_s4 lt_s5 lt_s6 ext_lt1 ext_lt2 ext_lt3

theorem owns_n {w : World} {B n m size : Nat} {e : TypeId} {v : Value} {xs : List Value} (h : w.ownsRow B e size v m xs) (hn : n = m) : w.ownsRow B e size v n xs := hn ▸ h
/-- One number is put behind a row of the call's own. -/
theorem appOne {w W : World} {vs : List Int} {n : Nat} {a1 : Option Addr} {c1 : Nat} (z : Int) (h1 : W.ownsRow w.heap.size 3 1 (.slice a1 n c1) n (ints .i64 vs)) (h2 : n ≤ 1048580) (h3 : Grew w W) :
    ∃ a2 c2 W2, (Builtin.append_ #[26, 26] 26 #[.slice a1 n c1, .slice (some ⟨W.heap.size, 0, none⟩) 1 1]).run Tryz.prog (W.alloc (.cells #[.int .i64 z] 3)) = .ok (.slice a2 (n + 1) c2) W2 ∧ W2.ownsRow w.heap.size 3 1 (.slice a2 (n + 1) c2) (n + 1) (ints .i64 (vs ++ [z])) ∧ Grew w W2 := by
  obtain ⟨v3, w3, hrun3, o3, g3, -⟩ := owns_append_lit (P := Tryz.prog) W intEl h1 1 [.int .i64 z] rfl (by simp [Value.oneCell']) (by omega) (by omega) h3.size
  obtain ⟨a2, c2, rfl⟩ := owns_slice o3
  exact ⟨a2, c2, w3, hrun3, by rw [ints_append]; exact o3, h3.grown g3 h3.size (fun j hj => (h1.lt j hj).1)⟩

set_option maxRecDepth 100000 in
set_option maxHeartbeats 2000000 in
theorem l6Put (a : Option Addr) (n cap : Nat) (zs : List Int) (x : Int) (w : World) (hr : Rd w a n 1 (ints .i64 zs)) (hm : n ≤ 1048576) :
    Calls Tryz.prog 42 #[.slice a n cap, .int .i64 x] w (RetIs (putF zs x) w) := by
  have hl := Lib.hid hr.len1
  have HR := Lib.hid hr; clear hr
  have H0 := Lib.hid (show (w.alloc (.cells #[] 3)).ownsRow w.heap.size 3 1 (.slice (some ⟨w.heap.size, 0, none⟩) 0 0) 0 (ints .i64 []) from World.ownsRow_lit w #[] 0 (Nat.le_refl _) (Nat.zero_le _) rfl)
  go_enter Tryz.func42, Tryz.ntmps42
  go_wp2
  go_loopw [5, 6, 7] (fun v d i wr => ∃ k : Nat, k ≤ n ∧ i = .int .i64 k ∧ d = .bool (putP x (zs.take k)).2 ∧ Grew w wr ∧ wr.ownsRow w.heap.size 3 1 v (putP x (zs.take k)).1.length (ints .i64 (putP x (zs.take k)).1)) (fun _ _ i _ => n - (Go.RowKit.intOf i).toNat)
  case atStart => exact ⟨0, Nat.zero_le _, rfl, rfl, grew_al (Below.refl _ _) _, H0.out⟩
  case round =>
    clear H0
    obtain ⟨k, hk, rfl, hd, hg, ho⟩ := hrel
    have hlen := putP_len x (zs.take k)
    have hlk : (zs.take k).length ≤ k := List.length_take_le _ _
    obtain ⟨S, hS⟩ : ∃ S, putP x (zs.take k) = S := ⟨_, rfl⟩
    rw [hS] at hd ho hlen
    obtain ⟨out, d⟩ := S
    subst hd
    dsimp only at ho hlen ⊢
    obtain ⟨oa, oc, rfl⟩ := owns_slice ho
    have HS := Lib.hid hS; clear hS
    by_cases hlt : k < n
    · obtain ⟨b, off, y, rfl, hy, hcw⟩ := HR.out.at1 hlt
      have lb := World.block_lt_of_cell? w _ hcw
      have hcell := (hg.cell (p := ⟨b, off + k, none⟩) lb).trans hcw
      have HT : Hid (putP x (zs.take (k + 1)) = putS x (out, d) y) := Lib.hid (by rw [take_get hy, putP_snoc, HS.out])
      clear hy HS
      cases d
      · by_cases h1 : x < y
        · have b1 : (y == x) = false := by simp; omega
          obtain ⟨a2, c2, w2, r2, o2, g2⟩ := appOne x ho (by omega) hg
          obtain ⟨a3, c3, w3, r3, o3, g3⟩ := appOne y o2 (by omega) g2
          have hcell2 := (g2.cell (p := ⟨b, off + k, none⟩) lb).trans hcw
          have HE : Hid (putS x (out, false) y = (out ++ [x] ++ [y], true)) := Lib.hid (by simp [putS, h1])
          have R2 := Lib.hid r2
          have R3 := Lib.hid r3
          have O3 := Lib.hid o3
          have G3 := Lib.hid g3
          clear r2 r3 o2 o3 g2 g3 ho hg hcw
          go_wp2_with (first | (at_builtin; refine wpList_append_run rfl _ _ rfl rfl rfl rfl R2.out ?_; clear R2) | (at_builtin; refine wpList_append_run rfl _ _ rfl rfl rfl rfl R3.out ?_))
          go_roundw
          case rel => exact ⟨k + 1, by omega, by go_num, by rw [HT.out, HE.out], G3.out, by rw [HT.out, HE.out]; exact owns_n O3.out (by simp)⟩
          case measure => simp [Go.RowKit.intOf]; omega
        · have h1' : y ≤ x := by omega
          obtain ⟨a2, c2, w2, r2, o2, g2⟩ := appOne y ho (by omega) hg
          have R2 := Lib.hid r2
          have O2 := Lib.hid o2
          have G2 := Lib.hid g2
          by_cases h2 : y = x
          · subst h2
            have b1 : (y == y) = true := by simp
            have HE : Hid (putS y (out, false) y = (out ++ [y], true)) := Lib.hid (by simp [putS])
            clear r2 o2 g2 ho hg hcw h1
            go_wp2_with (at_builtin; refine wpList_append_run rfl _ _ rfl rfl rfl rfl R2.out ?_)
            go_roundw
            case rel => exact ⟨k + 1, by omega, by go_num, by rw [HT.out, HE.out], G2.out, by rw [HT.out, HE.out]; exact owns_n O2.out (by simp)⟩
            case measure => simp [Go.RowKit.intOf]; omega
          · have b1 : (y == x) = false := by simp [h2]
            have HE : Hid (putS x (out, false) y = (out ++ [y], false)) := Lib.hid (by simp [putS, h1, h2])
            clear r2 o2 g2 ho hg hcw h2
            go_wp2_with (at_builtin; refine wpList_append_run rfl _ _ rfl rfl rfl rfl R2.out ?_)
            go_roundw
            case rel => exact ⟨k + 1, by omega, by go_num, by rw [HT.out, HE.out], G2.out, by rw [HT.out, HE.out]; exact owns_n O2.out (by simp)⟩
            case measure => simp [Go.RowKit.intOf]; omega
      · obtain ⟨a2, c2, w2, r2, o2, g2⟩ := appOne y ho (by omega) hg
        have R2 := Lib.hid r2
        have O2 := Lib.hid o2
        have G2 := Lib.hid g2
        have HE : Hid (putS x (out, true) y = (out ++ [y], true)) := Lib.hid (by simp [putS])
        clear r2 o2 g2 ho hg hcw
        by_cases h2 : y = x
        · subst h2
          have b1 : (y == y) = true := by simp
          go_wp2_with (at_builtin; refine wpList_append_run rfl _ _ rfl rfl rfl rfl R2.out ?_)
          go_roundw
          case rel => exact ⟨k + 1, by omega, by go_num, by rw [HT.out, HE.out], G2.out, by rw [HT.out, HE.out]; exact owns_n O2.out (by simp)⟩
          case measure => simp [Go.RowKit.intOf]; omega
        · have b1 : (y == x) = false := by simp [h2]
          go_wp2_with (at_builtin; refine wpList_append_run rfl _ _ rfl rfl rfl rfl R2.out ?_)
          go_roundw
          case rel => exact ⟨k + 1, by omega, by go_num, by rw [HT.out, HE.out], G2.out, by rw [HT.out, HE.out]; exact owns_n O2.out (by simp)⟩
          case measure => simp [Go.RowKit.intOf]; omega
    · have hE : putP x zs = (out, d) := by
        have := HS.out
        rwa [List.take_of_length_le (by have := hl.out; omega)] at this
      cases d
      · obtain ⟨a2, c2, w2, r2, o2, g2⟩ := appOne x ho (by omega) hg
        have HF : Hid (putF zs x = out ++ [x]) := Lib.hid (by simp [putF, hE])
        have R2 := Lib.hid r2
        have O2 := Lib.hid o2
        have G2 := Lib.hid g2
        clear r2 o2 g2 ho hg hE HS
        go_wp2_with (at_builtin; refine wpList_append_run rfl _ _ rfl rfl rfl rfl R2.out ?_)
        go_ret
        rw [HF.out]
        exact ⟨a2, c2, by simp, owns_n (by simpa using O2.out) (by simp), G2.out⟩
      · have HF : Hid (putF zs x = out) := Lib.hid (by simp [putF, hE])
        have O2 := Lib.hid ho
        have G2 := Lib.hid hg
        clear ho hg hE HS
        go_wp2
        go_ret
        rw [HF.out]
        exact ⟨oa, oc, rfl, O2.out, G2.out⟩

/-- A test that leaves the world. -/
def RetT (b : Bool) (w : World) (e : Ending) (w' : World) : Prop := e = .returned (.bool b) ∧ w = w'
theorem l6Has (a : Option Addr) (n cap : Nat) (zs : List Int) (x : Int) (w : World) (hr : Rd w a n 1 (ints .i64 zs)) (hn : n ≤ 9223372036854775807) :
    Calls Tryz.prog 46 #[.slice a n cap, .int .i64 x] w (RetT (decide (x ∈ zs)) w) := by
  have HL := Lib.hid hr.len1
  have HR := Lib.hid hr; clear hr
  go_enter Tryz.func46, Tryz.ntmps46
  go_wp2
  go_loop [5] (fun i => ∃ k : Nat, k ≤ n ∧ i = .int .i64 k ∧ ¬ x ∈ zs.take k) (fun i => n - (Go.RowKit.intOf i).toNat)
  case atStart => exact ⟨0, Nat.zero_le _, rfl, by simp⟩
  case round =>
    obtain ⟨k, hk, rfl, hall⟩ := hrel
    have HA := Lib.hid hall; clear hall
    by_cases hlt : k < n
    · obtain ⟨b, off, z0, rfl, hx, c0⟩ := HR.out.at1 hlt
      have HX := Lib.hid hx; clear hx
      by_cases hq : z0 = x
      · subst hq
        have b1 : (z0 == z0) = true := by simp
        go_wp2
        go_ret
        rw [decide_eq_true (List.mem_of_getElem? HX.out)]
        exact ⟨rfl, rfl⟩
      · have b1 : (z0 == x) = false := by simp [hq]
        have HQ := Lib.hid hq; clear hq
        go_wp2
        go_round
        case rel =>
          refine ⟨k + 1, by omega, by go_num, fun hz => ?_⟩
          rw [take_get HX.out] at hz
          rcases List.mem_append.1 hz with hz | hz
          · exact HA.out hz
          · exact HQ.out (List.mem_singleton.1 hz).symm
        case measure => simp [Go.RowKit.intOf]; omega
    · go_wp2
      go_ret
      have hno : ¬ x ∈ zs := by
        have := HA.out
        rwa [List.take_of_length_le (by have := HL.out; omega)] at this
      rw [decide_eq_false hno]
      exact ⟨rfl, rfl⟩

theorem putA_scomp (ns : List Int) : putA [] ns = scomp ns := by
  obtain ⟨h1, h2⟩ := putA_spec ns [] List.Pairwise.nil
  exact srt_ext h1 (scomp_srt ns) fun x => by rw [h2, scomp_mem]; simp
theorem putA_len (ns : List Int) : ∀ l : List Int, (putA l ns).length ≤ l.length + 2 * ns.length := by
  induction ns with
  | nil => intro l; simp [putA]
  | cons n ns ih =>
    intro l
    have h1 := ih (putF l n)
    have h2 := putF_len l n
    rw [show putA l (n :: ns) = putA (putF l n) ns from rfl, List.length_cons]
    omega
end Go.Proofs.YtmcfengnihomcaaGreat
