/- Lemmas and walks of this proof, some texts one behind the other. No condition. -/
import Derived.Test.YtdddhnepanjmfaaGreatBlk
import Derived.Test.YtdddhnepanjmfaaGreatOr
import Derived.Test.YtdddhnepanjmfaaGreatCd
import Derived.Test.YtdddhnepanjmfaaGreatGg
import Derived.Test.YtdddhnepanjmfaaGreatVm
import Derived.Test.YtdddhnepanjmfaaGreatPrgOkI
set_option linter.unusedSimpArgs false
set_option linter.unusedVariables false
/- Certificates of components, plain: which are right, what they hold at a place, where they may fail; the verdict of all. No program in sight. -/
namespace Go.Proofs.YtdddhnepanjmfaaGreat
set_option linter.unusedVariables false
set_option linter.unusedSimpArgs false

/-! ### What a certificate holds at a place -/
def lookL : List (Site × St) → Site → Option St
  | [], _ => none
  | (k, v) :: r, s => if s = k then some v else lookL r s
theorem lookL_app : ∀ (A B : List (Site × St)) (s : Site), lookL (A ++ B) s = (lookL A s).or (lookL B s)
  | [], B, s => by simp [lookL]
  | (k, v) :: r, B, s => by
    simp only [List.cons_append, lookL]
    by_cases h : s = k
    · simp [h]
    · simp [h, lookL_app r B s]
theorem lookL_none {A : List (Site × St)} {s : Site} (h : ∀ k v, (k, v) ∈ A → k ≠ s) : lookL A s = none := by
  induction A with
  | nil => rfl
  | cons x r ih =>
    obtain ⟨k, v⟩ := x
    rw [lookL, if_neg (fun e => h k v (by simp) e.symm)]
    exact ih (fun k' v' hm => h k' v' (by simp [hm]))
/-- The first j states of a row, at their places, those that can be come to. -/
def rowL (p : Int) (row : List St) : Nat → List (Site × St)
  | 0 => []
  | j + 1 => rowL p row j ++ (match row[j]? with
    | some s => if s.on then [(⟨p, j⟩, s)] else []
    | none => [])
theorem rowL_succ {p : Int} {row : List St} {j : Nat} {s : St} (h : row[j]? = some s) : rowL p row (j + 1) = rowL p row j ++ (if s.on then [(⟨p, j⟩, s)] else []) := by rw [rowL, h]
theorem rowL_mem {p : Int} {row : List St} {k : Site} {v : St} : ∀ {j : Nat}, (k, v) ∈ rowL p row j → k.proc = p ∧ ∃ i : Nat, k.pc = i ∧ i < j ∧ row[i]? = some v
  | 0, h => by simp [rowL] at h
  | j + 1, h => by
    rw [rowL, List.mem_append] at h
    rcases h with h | h
    · obtain ⟨h1, i, h2, h3, h4⟩ := rowL_mem h
      exact ⟨h1, i, h2, by omega, h4⟩
    · cases hr : row[j]? with
      | none => rw [hr] at h; simp at h
      | some s =>
        rw [hr] at h
        simp only at h
        split at h
        · simp only [List.mem_singleton, Prod.mk.injEq] at h
          obtain ⟨rfl, rfl⟩ := h
          exact ⟨rfl, j, rfl, by omega, hr⟩
        · simp at h
theorem lookL_row {p : Int} {row : List St} {i : Nat} {s : St} (hi : row[i]? = some s) : ∀ {j : Nat}, i < j → lookL (rowL p row j) ⟨p, i⟩ = if s.on then some s else none
  | 0, h => by omega
  | j + 1, h => by
    rw [rowL, lookL_app]
    by_cases hij : i < j
    · rw [lookL_row hi hij]
      have h2 : lookL (match row[j]? with | some s => if s.on then [(⟨p, j⟩, s)] else [] | none => []) ⟨p, i⟩ = none := by
        refine lookL_none fun k v hm => ?_
        cases hr : row[j]? with
        | none => rw [hr] at hm; simp at hm
        | some t =>
          rw [hr] at hm
          simp only at hm
          split at hm
          · simp only [List.mem_singleton, Prod.mk.injEq] at hm
            obtain ⟨rfl, rfl⟩ := hm
            intro e
            simp only [Site.mk.injEq] at e
            omega
          · simp at hm
      rw [h2]
      simp
    · obtain rfl : i = j := by omega
      have h1 : lookL (rowL p row i) ⟨p, i⟩ = none := lookL_none fun k v hm e => by
        obtain ⟨h1, i', h2, h3, -⟩ := rowL_mem hm
        rw [e] at h2
        simp only at h2
        omega
      rw [h1, hi]
      simp only [Option.none_or]
      split <;> simp [lookL]
/-- The first k rows of a certificate. -/
def certL (part : List Int) (states : List (List St)) : Nat → List (Site × St)
  | 0 => []
  | k + 1 => certL part states k ++ (match part[k]?, states[k]? with
    | some p, some row => rowL p row row.length
    | _, _ => [])
theorem certL_succ {part : List Int} {states : List (List St)} {k : Nat} {p : Int} {row : List St} (h1 : part[k]? = some p) (h2 : states[k]? = some row) : certL part states (k + 1) = certL part states k ++ rowL p row row.length := by
  rw [certL, h1, h2]
theorem certL_mem {part : List Int} {states : List (List St)} {s : Site} {v : St} : ∀ {k : Nat}, (s, v) ∈ certL part states k → ∃ i, i < k ∧ part[i]? = some s.proc
  | 0, h => by simp [certL] at h
  | k + 1, h => by
    rw [certL, List.mem_append] at h
    rcases h with h | h
    · obtain ⟨i, h1, h2⟩ := certL_mem h
      exact ⟨i, by omega, h2⟩
    · cases hp : part[k]? with
      | none => rw [hp] at h; simp at h
      | some p =>
        cases hr : states[k]? with
        | none => rw [hp, hr] at h; simp at h
        | some row =>
          rw [hp, hr] at h
          obtain ⟨h1, -⟩ := rowL_mem h
          exact ⟨k, by omega, by rw [hp, h1]⟩
theorem nodup_get {l : List Int} (h : l.Nodup) {i j : Nat} {x : Int} (hi : l[i]? = some x) (hj : l[j]? = some x) : i = j := by
  obtain ⟨h1, e1⟩ := List.getElem?_eq_some_iff.1 hi
  exact (List.getElem?_inj h1 h).1 (hi.trans hj.symm)
theorem certL_look {part : List Int} {states : List (List St)} (hn : part.Nodup) {k : Nat} {p : Int} {row : List St} {i : Nat} {s : St} (hp : part[k]? = some p) (hr : states[k]? = some row) (hs : row[i]? = some s) :
    ∀ {K : Nat}, k < K → lookL (certL part states K) ⟨p, i⟩ = if s.on then some s else none
  | 0, h => by omega
  | K + 1, h => by
    rw [certL, lookL_app]
    by_cases hk : k < K
    · rw [certL_look hn hp hr hs hk]
      have h2 : lookL (match part[K]?, states[K]? with | some p, some row => rowL p row row.length | _, _ => []) ⟨p, i⟩ = none := by
        refine lookL_none fun k' v hm e => ?_
        subst e
        cases hp' : part[K]? with
        | none => rw [hp'] at hm; simp at hm
        | some p' =>
          cases hr' : states[K]? with
          | none => rw [hp', hr'] at hm; simp at hm
          | some row' =>
            rw [hp', hr'] at hm
            obtain ⟨h1, -⟩ := rowL_mem hm
            simp only at h1
            subst h1
            have := nodup_get hn hp hp'
            omega
      rw [h2]
      simp
    · obtain rfl : k = K := by omega
      have h1 : lookL (certL part states k) ⟨p, i⟩ = none := lookL_none fun k' v hm e => by
        subst e
        obtain ⟨i', h1, h2⟩ := certL_mem hm
        have := nodup_get hn hp h2
        omega
      rw [h1, hp, hr]
      simp only [Option.none_or]
      exact lookL_row hs (List.getElem?_eq_some_iff.1 hs).1
/-- A place that is not yet there. -/
theorem certL_fresh {part : List Int} {states : List (List St)} (hn : part.Nodup) {k j : Nat} {p : Int} {row : List St} (hp : part[k]? = some p) : lookL (certL part states k ++ rowL p row j) ⟨p, j⟩ = none := by
  rw [lookL_app]
  have h1 : lookL (certL part states k) ⟨p, j⟩ = none := lookL_none fun k' v hm e => by
    subst e
    obtain ⟨i', h1, h2⟩ := certL_mem hm
    have := nodup_get hn hp h2
    omega
  have h2 : lookL (rowL p row j) ⟨p, j⟩ = none := lookL_none fun k' v hm e => by
    subst e
    obtain ⟨-, i', h2, h3, -⟩ := rowL_mem hm
    simp only at h2
    omega
  rw [h1, h2]
  rfl

/-! ### Which are right -/
def stB (s : St) : Bool := stOkB s.on s.vars s.lo s.hi
def codeOfP (ps : List Prc) (p : Int) : List Ins := match ps[p.toNat]? with
  | some c => c.code
  | none => []
def rowB (ps : List Prc) (p : Int) (row : List St) : Bool := decide (row.length = (codeOfP ps p).length) && row.all stB
def certB (ps : List Prc) (part : List Int) (x : Crt) : Bool :=
  decide (x.states.length = part.length) && decide (x.outs.length = part.length) && ((part.zip x.states).all fun q => rowB ps q.1 q.2) && x.outs.all sumOkB

/-! ### Where they may fail -/
def rowF (ps : List Prc) (p : Int) (row : List St) : Nat → List Site
  | 0 => []
  | j + 1 => rowF ps p row j ++ (match (codeOfP ps p)[j]?, row[j]? with
    | some i, some s => if s.on && failsB ps i s.vars then [⟨p, j⟩] else []
    | _, _ => [])
theorem rowF_succ {ps : List Prc} {p : Int} {row : List St} {j : Nat} {i : Ins} {s : St} (h1 : (codeOfP ps p)[j]? = some i) (h2 : row[j]? = some s) : rowF ps p row (j + 1) = rowF ps p row j ++ (if s.on && failsB ps i s.vars then [⟨p, j⟩] else []) := by rw [rowF, h1, h2]
theorem rowF_len (ps : List Prc) (p : Int) (row : List St) : ∀ j, (rowF ps p row j).length ≤ j
  | 0 => by simp [rowF]
  | j + 1 => by
    have := rowF_len ps p row j
    rw [rowF, List.length_append]
    have h2 : (match (codeOfP ps p)[j]?, row[j]? with | some i, some s => if s.on && failsB ps i s.vars then [(⟨p, j⟩ : Site)] else [] | _, _ => []).length ≤ 1 := by
      split
      · split <;> simp
      · simp
    omega
def certF (ps : List Prc) (part : List Int) (states : List (List St)) : Nat → List Site
  | 0 => []
  | k + 1 => certF ps part states k ++ (match part[k]?, states[k]? with
    | some p, some row => rowF ps p row (codeOfP ps p).length
    | _, _ => [])
theorem certF_succ {ps : List Prc} {part : List Int} {states : List (List St)} {k : Nat} {p : Int} {row : List St} (h1 : part[k]? = some p) (h2 : states[k]? = some row) : certF ps part states (k + 1) = certF ps part states k ++ rowF ps p row (codeOfP ps p).length := by
  rw [certF, h1, h2]
def alarmsL (ps : List Prc) (part : List Int) (x : Crt) : List Site := certF ps part x.states part.length

/-! ### The verdict of all -/
def allF (ps : List Prc) (parts : List (List Int)) (xs : List Crt) : Nat → List Site
  | 0 => []
  | k + 1 => allF ps parts xs k ++ (match parts[k]?, xs[k]? with
    | some part, some x => alarmsL ps part x
    | _, _ => [])
theorem allF_succ {ps : List Prc} {parts : List (List Int)} {xs : List Crt} {k : Nat} {part : List Int} {x : Crt} (h1 : parts[k]? = some part) (h2 : xs[k]? = some x) : allF ps parts xs (k + 1) = allF ps parts xs k ++ alarmsL ps part x := by
  rw [allF, h1, h2]
/-- Kind and places. -/
def vrdP (ps : List Prc) (xs : List Crt) : Int × List Site :=
  if prgOkB ps && decide (xs.length = (ptOf ps).length) && ((ptOf ps).zip xs).all (fun q => certB ps q.1 q.2) then
    (if allF ps (ptOf ps) xs xs.length = [] then (2, []) else (3, putsL [] (allF ps (ptOf ps) xs xs.length)))
  else (0, [])
end Go.Proofs.YtdddhnepanjmfaaGreat

/- The program's check that procedures are a component, and its empty certificate. No condition. -/
namespace Go.Proofs.YtdddhnepanjmfaaGreat
open Go.RowKit
set_option linter.unusedVariables false
set_option linter.unusedSimpArgs false
attribute [local go_sem] ext_cell ext_frozen ext_lt ext_le ext_le1 lt_s2 lt_s3 lt_s4 lt_s5 lt_s6 ext_lt1 ext_lt2 ext_lt3

theorem belowT (x n : Int) (w : World) (h0 : 0 ≤ x) (h1 : x < n) : Calls Tryz.prog 97 #[.int .i64 x, .int .i64 n] w fun e w' => e = .returned (.bool true) ∧ Grew w w' := by
  have h2 : ¬ x < 0 := by omega
  go_enter Tryz.func97, Tryz.ntmps97
  go_wp2
  all_goals
    go_ret
    exact ⟨by go_light; simp [h0, h1], gr⟩
theorem part_at {w : World} {a : Option Addr} {n : Nat} {part : List Int} (h : Rd w a n 1 (ints .i64 part)) {k : Nat} (hk : k < n) : ∃ b off x, a = some ⟨b, off, none⟩ ∧ part[k]? = some x ∧ w.cell? ⟨b, off + k, none⟩ = some (.int .i64 x) := by
  obtain ⟨h1, h2⟩ := h
  have hl : part.length = n := by simpa [ints] using h1
  rcases h2 with h2 | ⟨b, off, rfl, h2⟩
  · have hp : part = [] := by cases part with | nil => rfl | cons x l => simp [ints] at h2
    rw [hp] at hl
    simp at hl
    omega
  · have hx : part[k]? = some (part[k]'(by omega)) := List.getElem?_eq_getElem _
    exact ⟨b, off, _, rfl, hx, h2 k _ (by simp [ints, hx])⟩
theorem part_cell {w : World} {b off n : Nat} {part : List Int} (h : Rd w (some ⟨b, off, none⟩) n 1 (ints .i64 part)) {k : Nat} {x : Int} (hx : part[k]? = some x) : w.cell? ⟨b, off + k, none⟩ = some (.int .i64 x) := by
  obtain ⟨h1, h2⟩ := h
  rcases h2 with h2 | ⟨b', off', e, h2⟩
  · have hp : part = [] := by cases part with | nil => rfl | cons x l => simp [ints] at h2
    rw [hp] at hx
    simp at hx
  · simp only [Option.some.injEq, Addr.mk.injEq] at e
    obtain ⟨rfl, rfl, -⟩ := e
    exact h2 k _ (by simp [ints, hx])

set_option maxRecDepth 100000 in
set_option maxHeartbeats 2000000 in
theorem isPartT (a : Option Addr) (n cap : Nat) (ps : List Prc) (ta : Option Addr) (tn tc : Nat) (part : List Int) (w : World) (hr : RdP w a n ps) (hn : n ≤ 9223372036854775807) (hok : prgOkB ps = true) (ht : Rd w ta tn 1 (ints .i64 part)) (ht1 : 1 ≤ tn) (htn : tn ≤ 1000)
    (hs : Srt part) (hb : ∀ x, x ∈ part → 0 ≤ x ∧ x < n) :
    Calls Tryz.prog 54 #[.agg #[.slice a n cap], .slice ta tn tc] w fun e w' => e = .returned (.bool true) ∧ Grew w w' := by
  have C := fun W (g : Grew w W) => implPrgOk a n cap ps W (hr.grew g) hn
  rw [hok] at C
  have HC := Lib.hid C
  have HT := Lib.hid ht
  have HS := Lib.hid hs
  have HB := Lib.hid hb
  clear C hr hok ht hs hb
  have HB0 := Lib.hid (Blk.new w 34 #[.slice a n cap])
  go_enter Tryz.func54, Tryz.ntmps54
  go_wp2_with fail
  refine (HC.out _ (gr)).mono ?_
  rintro e w1 ⟨rfl, g1⟩
  have HB1 := Lib.hid (HB0.out.grew g1)
  have HG1 := Lib.hid (grew_tr (grew_al (Below.refl _ w) (.cells #[.slice a n cap] 34)) g1)
  have ht0 : ((tn : Int) == 0) = false := by simp; omega
  clear g1 HB0 HC
  go_wp2
  go_loopw [17] (fun i wr => ∃ k : Nat, k ≤ tn ∧ i = .int .i64 k ∧ Grew w wr ∧ Blk wr w.heap.size 34 #[.slice a n cap]) (fun i _ => tn - (Go.RowKit.intOf i).toNat)
  case atStart => exact ⟨0, Nat.zero_le _, rfl, HG1.out, HB1.out⟩
  case round =>
    clear HG1 HB1
    obtain ⟨k, hk, rfl, hg, hb⟩ := hrel
    have HG := Lib.hid hg
    have HK := Lib.hid hb
    have c0 := hb.cell 0
    have cl := hb.lt
    simp only [List.getElem?_toArray, List.getElem?_cons_zero] at c0
    by_cases hlt : k < tn
    · obtain ⟨b, off, x, rfl, hx, p0⟩ := part_at (HT.out.grew hg) hlt
      obtain ⟨hx0, hx1⟩ := HB.out x (List.mem_of_getElem? hx)
      have HBe := Lib.hid fun W => belowT x n W hx0 hx1
      have HX := Lib.hid hx
      by_cases hk0 : k = 0
      · subst hk0
        rw [Nat.add_zero] at p0
        clear hg hb hx0 hx1 hx
        go_wp2_with fail
        refine (HBe.out _).mono ?_
        rintro e w2 ⟨rfl, g2⟩
        have HG2 := Lib.hid (grew_tr HG.out g2)
        have HK2 := Lib.hid (HK.out.grew g2)
        clear g2 c0 cl p0
        go_wp2
        go_roundw
        case rel => exact ⟨1, by omega, rfl, HG2.out, HK2.out⟩
        case measure => simp [Go.RowKit.intOf]; omega
      · obtain ⟨y, hy⟩ : ∃ y, part[k - 1]? = some y := ⟨_, List.getElem?_eq_getElem (by have := (List.getElem?_eq_some_iff.1 hx).1; omega)⟩
        have hyx : y < x := by
          obtain ⟨h1, e1⟩ := List.getElem?_eq_some_iff.1 hy
          obtain ⟨h2, e2⟩ := List.getElem?_eq_some_iff.1 hx
          have := List.pairwise_iff_getElem.1 HS.out (k - 1) k h1 h2 (by omega)
          rw [e1, e2] at this
          exact this
        have hyx2 : ¬ x ≤ y := by omega
        have hk1 : 0 < k := by omega
        have HQ := Lib.hid (part_cell (HT.out.grew hg) hy)
        clear hg hb hx0 hx1 hx hy hyx
        go_wp2_with fail
        refine (HBe.out _).mono ?_
        rintro e w2 ⟨rfl, g2⟩
        have HG2 := Lib.hid (grew_tr HG.out g2)
        have HK2 := Lib.hid (HK.out.grew g2)
        have q0 := gk g2 HQ.out
        have hki : ((k : Int) - 1) = ((k - 1 : Nat) : Int) := by omega
        clear g2 c0 cl p0
        go_wp2
        go_roundw
        case rel => exact ⟨k + 1, by omega, by go_num, HG2.out, HK2.out⟩
        case measure => simp [Go.RowKit.intOf]; omega
    · clear hg hb
      go_wp2
      go_ret
      exact ⟨rfl, HG.out⟩

/-- An empty certificate of the call's own. -/
def RetNC (a : Option Addr) (n cap : Nat) (ta : Option Addr) (tn tc : Nat) (w : World) (e : Ending) (w' : World) : Prop :=
  ∃ gc gs go, e = .returned (.pointer (some ⟨gc, 0, none⟩)) ∧ Blk w' gc 121 #[.slice a n cap, .slice ta tn tc, .map (some gs), .map (some go)] ∧ MapS gs [] w' ∧ MapO go [] w' ∧ (w.heap.size ≤ gs ∧ gs < go ∧ go < gc) ∧ Grew w w'
set_option maxRecDepth 100000 in
theorem newCertT (a : Option Addr) (n cap : Nat) (ta : Option Addr) (tn tc : Nat) (w : World) :
    Calls Tryz.prog 55 #[.agg #[.slice a n cap], .slice ta tn tc] w (RetNC a n cap ta tn tc w) := by
  have hm1 := fun w => run_makeMap (P := Tryz.prog) 118 w
  have hm2 := fun w => run_makeMap (P := Tryz.prog) 119 w
  go_enter Tryz.func55, Tryz.ntmps55
  go_wp2
  go_ret
  refine ⟨w.heap.size + 3, w.heap.size + 1, w.heap.size + 2, rfl, ?_, ?_, ?_, ⟨by omega, by omega, by omega⟩, grew_al (grew_al (grew_al (grew_al (Below.refl _ w) _) _) _) _⟩
  · have := Blk.new (((w.alloc (.cells #[.slice a n cap] 34)).alloc (.map #[] 0)).alloc (.map #[] 0)) 121 #[.slice a n cap, .slice ta tn tc, .map (some (w.heap.size + 1)), .map (some (w.heap.size + 1 + 1))]
    simpa only [World.size_alloc] using this
  · have := MapS.made (w.alloc (.cells #[.slice a n cap] 34))
    simp only [World.size_alloc] at this
    exact (this.grew (grew_al (Below.refl _ _) _)).grew (grew_al (Below.refl _ _) _)
  · have := MapO.made ((w.alloc (.cells #[.slice a n cap] 34)).alloc (.map #[] 0))
    simp only [World.size_alloc] at this
    exact this.grew (grew_al (Below.refl _ _) _)
end Go.Proofs.YtdddhnepanjmfaaGreat
