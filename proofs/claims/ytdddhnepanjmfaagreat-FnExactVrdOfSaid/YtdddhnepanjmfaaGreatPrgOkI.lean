/- Contract of the program's PrgOk. No condition. -/
import Derived.Test.YtdddhnepanjmfaaGreatPrgOk
import Derived.Outline
namespace Go.Proofs.YtdddhnepanjmfaaGreat
open Go.RowKit
set_option linter.unusedVariables false
attribute [local go_sem] ext_cell ext_frozen ext_lt ext_le ext_le1 lt_s2 lt_s3 lt_s4 lt_s5 lt_s6 ext_lt1 ext_lt2 ext_lt3

theorem any_not {α : Type} (f : α → Bool) (l : List α) : l.any (fun i => !f i) = !l.all f := by
  induction l with
  | nil => rfl
  | cons x xs ih => rw [List.any_cons, List.all_cons, ih, Bool.not_and]

theorem prcItv (lo hi : Int) (v : Value) (w : World) :
    Calls Tryz.prog 87 #[.agg #[.int .i64 lo, .int .i64 hi, v]] w fun e w' => e = .returned (.agg #[.int .i64 lo, .int .i64 hi]) ∧ Grew w w' := by
  go_enter Tryz.func87, Tryz.ntmps87
  go_wp2
  go_returns
  exact ⟨rfl, by unfold Grew; go_grown⟩

theorem implEnds (i : Ins) (w : World) :
    Calls Tryz.prog 88 #[i.v] w fun e w' => e = .returned (.bool (endsB i)) ∧ Grew w w' := by
  obtain ⟨op, d, a, b, rel, lo, hi, to⟩ := i
  go_enter Tryz.func88, Tryz.ntmps88
  go_wp2
  all_goals
    go_ret
    refine ⟨by go_light; by_cases h12 : op = 12 <;> by_cases h9' : op = 9 <;> simp_all [endsB], ?_⟩
    exact gr

theorem prgOkF1 (i : Ins) (bp bs n cap : Nat) (a : Option Addr) (size : Int) (w : World) (hp : w.cell? ⟨bp, 0, none⟩ = some (.slice a n cap)) (hs : w.cell? ⟨bs, 0, none⟩ = some (.int .i64 size)) (hbp : bp < w.heap.size) (hbs : bs < w.heap.size) :
    Calls Tryz.prog 90 #[i.v, .pointer (some ⟨bp, 0, none⟩), .pointer (some ⟨bs, 0, none⟩)] w fun e w' => e = .returned (.bool (!insOkB i n size)) ∧ Grew w w' := by
  obtain ⟨op, d, a, b, rel, lo, hi, to⟩ := i
  have C := fun w => implInsOk ⟨op, d, a, b, rel, lo, hi, to⟩ n size w
  obtain ⟨B, hB⟩ : ∃ B, insOkB ⟨op, d, a, b, rel, lo, hi, to⟩ n size = B := ⟨_, rfl⟩
  rw [hB] at C ⊢
  have HC := Lib.hid C; clear C hB
  go_enter Tryz.func90, Tryz.ntmps90
  go_wp2_with ((with_reducible refine (HC.out _).mono ?_); rintro e w' ⟨rfl, g'⟩; (first | obtain ⟨x, rfl⟩ := ext_cold g' | obtain ⟨x, rfl⟩ := ext_col g' | obtain ⟨x, rfl⟩ := ext_of g'); clear g')
  go_ret
  refine ⟨rfl, ?_⟩
  exact gr

/-- Where the first is that is so; -1, if none is. -/
def RetIdx {α : Type} (p : α → Bool) (xs : List α) (w : World) (e : Ending) (w' : World) : Prop := ∃ z : Int, e = .returned (.int .i64 z) ∧ decide (0 ≤ z) = xs.any p ∧ Grew w w'

set_option maxHeartbeats 1000000 in
theorem indexFuncIns (a : Option Addr) (n cap : Nat) (is : List Ins) (bp bs pn pcap : Nat) (pa : Option Addr) (size : Int) (w : World) (hr : RdL EIns 8 w a n is) (hn : n ≤ 9223372036854775807)
    (hp : w.cell? ⟨bp, 0, none⟩ = some (.slice pa pn pcap)) (hs : w.cell? ⟨bs, 0, none⟩ = some (.int .i64 size)) (hbp : bp < w.heap.size) (hbs : bs < w.heap.size) :
    Calls Tryz.prog 119 #[.slice a n cap, .func (.func 90) #[] #[.pointer (some ⟨bp, 0, none⟩), .pointer (some ⟨bs, 0, none⟩)]] w (RetIdx (fun i => !insOkB i pn size) is w) := by
  have HL := Lib.hid hr.len
  have HR := Lib.hid hr; clear hr
  have HP := Lib.hid hp; clear hp
  have HS := Lib.hid hs; clear hs
  go_enter Tryz.func119, Tryz.ntmps119
  go_wp2
  go_loopw [8] (fun i wr => ∃ k : Nat, k ≤ n ∧ i = .int .i64 k ∧ (∃ x, wr = ext w x) ∧ ∀ i, i ∈ is.take k → insOkB i pn size = true) (fun i _ => n - (intOf i).toNat)
  case atStart => exact ⟨0, Nat.zero_le _, rfl, ext_of (Below.refl _ _), by simp⟩
  case round =>
    obtain ⟨k, hk, rfl, ⟨x, rfl⟩, hall⟩ := hrel
    have HA := Lib.hid hall; clear hall
    by_cases hlt : k < n
    · obtain ⟨b, off, op, d, ia, ib, rel, lo', hi', to, rfl, hx, c0, c1, c2, c3, c4, c5, c6, c7, hb⟩ := rdI_at (HR.out.grew stays_ins (ext_grew w x)) hlt
      have HX := Lib.hid hx; clear hx
      have C := prgOkF1 ⟨op, d, ia, ib, rel, lo', hi', to⟩ bp bs pn pcap pa size (ext w x) (by rw [ext_cell _ _ _ hbp]; exact HP.out) (by rw [ext_cell _ _ _ hbs]; exact HS.out) (ext_lt _ _ _ hbp) (ext_lt _ _ _ hbs)
      cases hq : insOkB ⟨op, d, ia, ib, rel, lo', hi', to⟩ pn size
      · rw [hq] at C
        have HC := Lib.hid C; clear C
        have HQ := Lib.hid hq; clear hq
        go_wp2_with ((with_reducible refine (HC.out).mono ?_); rintro e w' ⟨rfl, g'⟩; (first | obtain ⟨y, rfl⟩ := ext_cold g' | obtain ⟨y, rfl⟩ := ext_col g' | obtain ⟨y, rfl⟩ := ext_of g'); clear g')
        go_ret
        refine ⟨k, rfl, ?_, gr⟩
        rw [decide_eq_true (by omega), eq_comm, List.any_eq_true]
        exact ⟨_, List.mem_of_getElem? HX.out, by simp [HQ.out]⟩
      · rw [hq] at C
        have HC := Lib.hid C; clear C
        have HQ := Lib.hid hq; clear hq
        go_wp2_with ((with_reducible refine (HC.out).mono ?_); rintro e w' ⟨rfl, g'⟩; (first | obtain ⟨y, rfl⟩ := ext_cold g' | obtain ⟨y, rfl⟩ := ext_col g' | obtain ⟨y, rfl⟩ := ext_of g'); clear g')
        go_roundw
        case rel =>
          refine ⟨k + 1, by omega, by go_num, ext_of (gr), fun i hi => ?_⟩
          rw [take_get HX.out] at hi
          rcases List.mem_append.1 hi with hi | hi
          · exact HA.out i hi
          · obtain rfl := List.mem_singleton.1 hi
            exact HQ.out
        case measure => simp [intOf]; omega
    · go_wp2
      go_ret
      refine ⟨-1, rfl, ?_, gr⟩
      rw [eq_comm]
      show is.any _ = false
      rw [List.any_eq_false]
      intro i hi
      have := HA.out i (by rw [List.take_of_length_le (by have := HL.out; omega)]; exact hi)
      simp [this]

theorem containsFuncIns (a : Option Addr) (n cap : Nat) (is : List Ins) (bp bs pn pcap : Nat) (pa : Option Addr) (size : Int) (w : World) (hr : RdL EIns 8 w a n is) (hn : n ≤ 9223372036854775807)
    (hp : w.cell? ⟨bp, 0, none⟩ = some (.slice pa pn pcap)) (hs : w.cell? ⟨bs, 0, none⟩ = some (.int .i64 size)) (hbp : bp < w.heap.size) (hbs : bs < w.heap.size) :
    Calls Tryz.prog 89 #[.slice a n cap, .func (.func 90) #[] #[.pointer (some ⟨bp, 0, none⟩), .pointer (some ⟨bs, 0, none⟩)]] w fun e w' => e = .returned (.bool (is.any (fun i => !insOkB i pn size))) ∧ Grew w w' := by
  have C := Lib.hid (indexFuncIns a n cap is bp bs pn pcap pa size w hr hn hp hs hbp hbs)
  clear hr hp hs
  go_enter Tryz.func89, Tryz.ntmps89
  go_wp2_with fail
  refine C.out.mono ?_
  rintro e w1 ⟨z, rfl, hz, g1⟩
  have HZ := Lib.hid hz; clear hz
  have HG := Lib.hid g1; clear g1
  go_wp2
  go_ret
  exact ⟨by rw [← HZ.out]; rfl, HG.out⟩

set_option maxHeartbeats 4000000 in
theorem implPrgOk (a : Option Addr) (n cap : Nat) (ps : List Prc) (w : World) (hr : RdP w a n ps) (hn : n ≤ 9223372036854775807) :
    Calls Tryz.prog 50 #[.agg #[.slice a n cap]] w fun e w' => e = .returned (.bool (prgOkB ps)) ∧ Grew w w' := by
  have HL := Lib.hid hr.len
  have HR := Lib.hid hr; clear hr
  by_cases hh : 1 ≤ n ∧ n ≤ 4
  · obtain ⟨h6, h7⟩ := hh
    have HH : Hid (prgOkB ps = ps.all (fun p => prcOkB p n)) := Lib.hid (by
      have := HL.out
      simp [prgOkB, this, h6, h7])
    have h8 : ¬ (n : Int) < 1 := by omega
    have h9 : ¬ (4 : Int) < (n : Int) := by omega
    go_enter Tryz.func50, Tryz.ntmps50
    go_wp2
    go_loopw [19] (fun i wr => ∃ k : Nat, k ≤ n ∧ i = .int .i64 k ∧ (∃ x, wr = ext (w.alloc (.cells #[.slice a n cap] 34)) x) ∧ ∀ p, p ∈ ps.take k → prcOkB p n = true) (fun i _ => n - (intOf i).toNat)
    case atStart => exact ⟨0, Nat.zero_le _, rfl, ext_of (Below.refl _ _), by simp⟩
    case round =>
      obtain ⟨k, hk, rfl, ⟨x, rfl⟩, hall⟩ := hrel
      have HA := Lib.hid hall; clear hall
      have HG : Hid (Grew w (ext (w.alloc (.cells #[.slice a n cap] 34)) x)) := Lib.hid (gr)
      by_cases hlt : k < n
      · obtain ⟨b, off, lo, hi, is, ia, ic, rfl, hx, c0, c1, c2, hb, hi1, hi2, hi3⟩ := rdP_at (HR.out.grew HG.out) hlt
        have HX := Lib.hid hx; clear hx
        unfold maxLen at hi3
        have HI := Lib.hid hi1; clear hi1
        have hlen : is.length ≤ 9223372036854775807 := by omega
        clear hi2 hi3
        have CI := Lib.hid (fun w => prcItv lo hi (.slice ia is.length ic) w)
        have CO := fun w => itvOk lo hi w
        have hfalse : prcOkB ⟨lo, hi, is⟩ n = false → prgOkB ps = false := fun h => by
          rw [HH.out, List.all_eq_false]
          exact ⟨_, List.mem_of_getElem? HX.out, by simp [h]⟩
        have HF := Lib.hid hfalse; clear hfalse
        cases hq : itvOkB lo hi
        · have HQ := Lib.hid (HF.out (by simp [prcOkB, hq]))
          rw [hq] at CO
          have HCO := Lib.hid CO; clear CO hq
          go_wp2_with (first | ((with_reducible refine (CI.out _).mono ?_); rintro e w' ⟨rfl, g'⟩; (first | obtain ⟨y, rfl⟩ := ext_cold g' | obtain ⟨y, rfl⟩ := ext_col g' | obtain ⟨y, rfl⟩ := ext_of g'); clear g') | ((with_reducible refine (HCO.out _).mono ?_); rintro e w' ⟨rfl, g'⟩; (first | obtain ⟨z, rfl⟩ := ext_cold g' | obtain ⟨z, rfl⟩ := ext_col g' | obtain ⟨z, rfl⟩ := ext_of g'); clear g'))
          go_ret
          refine ⟨by rw [HQ.out]; rfl, ?_⟩
          exact gr
        rw [hq] at CO
        have HCO := Lib.hid CO; clear CO
        by_cases hl : 1 ≤ is.length ∧ is.length ≤ 10
        · obtain ⟨h1, h2⟩ := hl
          have h1' : ¬ (is.length : Int) < 1 := by omega
          have h2' : ¬ (10 : Int) < (is.length : Int) := by omega
          have HP : Hid (prcOkB ⟨lo, hi, is⟩ n = (is.all (fun i => insOkB i n is.length) && lastB is)) := Lib.hid (by simp [prcOkB, hq, h1, h2])
          clear hq
          have HIx := HI.out.grew stays_ins (Below.refl _ _)
          obtain ⟨b', off', op', d', ia', ib', rel', lo', hi', to', rfl, hx', c0', c1', c2', c3', c4', c5', c6', c7', hb'⟩ := rdI_at HIx (k := is.length - 1) (by omega)
          clear HIx
          obtain ⟨q0, q1, q2⟩ := lt3 hb'
          have HLB : Hid (lastB is = endsB ⟨op', d', ia', ib', rel', lo', hi', to'⟩) := Lib.hid (lastB_of (m := is.length - 1) (by omega) hx')
          clear hx'
          have CE := fun w => implEnds ⟨op', d', ia', ib', rel', lo', hi', to'⟩ w
          cases he : endsB ⟨op', d', ia', ib', rel', lo', hi', to'⟩
          · rw [he] at CE
            have HQ := Lib.hid (HF.out (by rw [HP.out, HLB.out, he, Bool.and_false]))
            have HCE := Lib.hid CE; clear CE he
            go_wp2_with (first | ((with_reducible refine (CI.out _).mono ?_); rintro e w' ⟨rfl, g'⟩; (first | obtain ⟨y, rfl⟩ := ext_cold g' | obtain ⟨y, rfl⟩ := ext_col g' | obtain ⟨y, rfl⟩ := ext_of g'); clear g') | ((with_reducible refine (HCO.out _).mono ?_); rintro e w' ⟨rfl, g'⟩; (first | obtain ⟨z, rfl⟩ := ext_cold g' | obtain ⟨z, rfl⟩ := ext_col g' | obtain ⟨z, rfl⟩ := ext_of g'); clear g') | ((with_reducible refine (HCE.out _).mono ?_); rintro e w' ⟨rfl, g'⟩; (first | obtain ⟨u, rfl⟩ := ext_cold g' | obtain ⟨u, rfl⟩ := ext_col g' | obtain ⟨u, rfl⟩ := ext_of g'); clear g'))
            go_ret
            refine ⟨by rw [HQ.out]; rfl, ?_⟩
            exact gr
          · rw [he] at CE
            have HP2 : Hid (prcOkB ⟨lo, hi, is⟩ n = is.all (fun i => insOkB i n is.length)) := Lib.hid (by rw [HP.out, HLB.out, he, Bool.and_true])
            have HCE := Lib.hid CE; clear CE he
            go_wp2_with (first | ((with_reducible refine (CI.out _).mono ?_); rintro e w' ⟨rfl, g'⟩; (first | obtain ⟨y, rfl⟩ := ext_cold g' | obtain ⟨y, rfl⟩ := ext_col g' | obtain ⟨y, rfl⟩ := ext_of g'); clear g') | ((with_reducible refine (HCO.out _).mono ?_); rintro e w' ⟨rfl, g'⟩; (first | obtain ⟨z, rfl⟩ := ext_cold g' | obtain ⟨z, rfl⟩ := ext_col g' | obtain ⟨z, rfl⟩ := ext_of g'); clear g') | ((with_reducible refine (HCE.out _).mono ?_); rintro e w' ⟨rfl, g'⟩; (first | obtain ⟨u, rfl⟩ := ext_cold g' | obtain ⟨u, rfl⟩ := ext_col g' | obtain ⟨u, rfl⟩ := ext_of g'); clear g'))
            have HP3 : Hid (is.any (fun i => !insOkB i n is.length) = !prcOkB ⟨lo, hi, is⟩ n) := Lib.hid (by rw [HP2.out]; exact any_not _ _)
            have s1 := ext_size (w.alloc (.cells #[.slice (some ⟨b, off, none⟩) n cap] 34)) x
            have s2 := ext_size _ u
            simp only [World.size_alloc] at s1 s2
            refine (containsFuncIns _ _ ic is _ _ n cap (some ⟨b, off, none⟩) is.length _ (HI.out.grew stays_ins (gr)) hlen (by simp [go_sem]) (by simp [go_sem]) (by omega) (by omega)).mono ?_
            rintro e w2 ⟨rfl, g2⟩
            obtain ⟨v, rfl⟩ := ext_col g2
            clear g2 s1 s2
            rw [HP3.out]
            cases hq2 : prcOkB ⟨lo, hi, is⟩ n
            · have HQ := Lib.hid (HF.out hq2)
              clear hq2
              go_wp2
              go_ret
              refine ⟨by rw [HQ.out]; rfl, ?_⟩
              exact gr
            · have HQ := Lib.hid hq2
              clear hq2
              go_wp2
              go_roundw
              case rel =>
                refine ⟨k + 1, by omega, by go_num, ext_of (gr), fun p hp => ?_⟩
                rw [take_get HX.out] at hp
                rcases List.mem_append.1 hp with hp | hp
                · exact HA.out p hp
                · obtain rfl := List.mem_singleton.1 hp
                  exact HQ.out
              case measure => simp [intOf]; omega
        · have HQ := Lib.hid (HF.out (by
            rw [Bool.eq_false_iff]
            intro h
            simp only [prcOkB, Bool.and_eq_true, decide_eq_true_eq] at h
            exact hl h.1.1.2))
          clear hq
          by_cases hl1 : is.length < 1
          · have h1' : (is.length : Int) < 1 := by omega
            clear hl
            go_wp2_with (first | ((with_reducible refine (CI.out _).mono ?_); rintro e w' ⟨rfl, g'⟩; (first | obtain ⟨y, rfl⟩ := ext_cold g' | obtain ⟨y, rfl⟩ := ext_col g' | obtain ⟨y, rfl⟩ := ext_of g'); clear g') | ((with_reducible refine (HCO.out _).mono ?_); rintro e w' ⟨rfl, g'⟩; (first | obtain ⟨z, rfl⟩ := ext_cold g' | obtain ⟨z, rfl⟩ := ext_col g' | obtain ⟨z, rfl⟩ := ext_of g'); clear g'))
            go_ret
            refine ⟨by rw [HQ.out]; rfl, ?_⟩
            exact gr
          · have h1' : ¬ (is.length : Int) < 1 := by omega
            have h2' : (10 : Int) < (is.length : Int) := by omega
            clear hl
            go_wp2_with (first | ((with_reducible refine (CI.out _).mono ?_); rintro e w' ⟨rfl, g'⟩; (first | obtain ⟨y, rfl⟩ := ext_cold g' | obtain ⟨y, rfl⟩ := ext_col g' | obtain ⟨y, rfl⟩ := ext_of g'); clear g') | ((with_reducible refine (HCO.out _).mono ?_); rintro e w' ⟨rfl, g'⟩; (first | obtain ⟨z, rfl⟩ := ext_cold g' | obtain ⟨z, rfl⟩ := ext_col g' | obtain ⟨z, rfl⟩ := ext_of g'); clear g'))
            go_ret
            refine ⟨by rw [HQ.out]; rfl, ?_⟩
            exact gr
      · have hall : ps.all (fun p => prcOkB p n) = true := by
          rw [List.all_eq_true]
          intro p hp
          exact HA.out p (by rw [List.take_of_length_le (by have := HL.out; omega)]; exact hp)
        have HF := Lib.hid hall; clear hall
        go_wp2
        go_ret
        refine ⟨by rw [HH.out, HF.out]; rfl, ?_⟩
        exact gr
  · have HF : Hid (prgOkB ps = false) := Lib.hid (by
      have h1 := HL.out
      rw [Bool.eq_false_iff]
      intro h
      simp only [prgOkB, Bool.and_eq_true, decide_eq_true_eq, h1] at h
      exact hh h.1)
    by_cases h1 : n < 1
    · have h2 : (n : Int) < 1 := by omega
      clear hh
      go_enter Tryz.func50, Tryz.ntmps50
      go_wp2
      go_ret
      refine ⟨by rw [HF.out]; rfl, ?_⟩
      exact gr
    · have h2 : ¬ (n : Int) < 1 := by omega
      have h3 : (4 : Int) < (n : Int) := by omega
      clear hh
      go_enter Tryz.func50, Tryz.ntmps50
      go_wp2
      go_ret
      refine ⟨by rw [HF.out]; rfl, ?_⟩
      exact gr
end Go.Proofs.YtdddhnepanjmfaaGreat
