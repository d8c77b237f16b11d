/- Lemmas and walks of this proof, some texts one behind the other. No condition. -/
import Derived.Test.YtnjoofpllhbccaaGreatGs3
import Derived.Test.YtnjoofpllhbccaaGreatGt
import Derived.Test.YtnjoofpllhbccaaGreatMarks
set_option linter.unusedSimpArgs false
set_option linter.unusedVariables false
/- Whether a row of numbers holds one of a part; in which part a number is. No condition. -/
namespace Go.Proofs.YtnjoofpllhbccaaGreat
open Go.RowKit
set_option linter.unusedVariables false
set_option linter.unusedSimpArgs false
attribute [local go_sem] ext_cell ext_frozen ext_lt ext_le ext_le1 lt_s2 lt_s3 lt_s4 lt_s5 lt_s6 ext_lt1 ext_lt2 ext_lt3

theorem needs1 (y : Int) (pb : Nat) (pa : Option Addr) (pn pc : Nat) (P : List Int) (w : World) (hc : w.cell? ⟨pb, 0, none⟩ = some (.slice pa pn pc)) (hr : Rd w pa pn 1 (ints .i64 P)) (hn : pn ≤ 9223372036854775807) :
    Calls Tryz.prog 43 #[.int .i64 y, .pointer (some ⟨pb, 0, none⟩)] w (RetT (decide (y ∈ P)) w) := by
  have C := Lib.hid (containsInt pa pn pc P y w hr hn)
  clear hr
  go_enter Tryz.func43, Tryz.ntmps43
  go_wp2_with fail
  refine C.out.mono ?_
  rintro e w1 ⟨rfl, rfl⟩
  go_wp2
  go_ret
  exact ⟨rfl, rfl⟩
theorem indexFunc (a : Option Addr) (n cap : Nat) (zs : List Int) (pb : Nat) (pa : Option Addr) (pn pc : Nat) (P : List Int) (w : World) (hz : Rd w a n 1 (ints .i64 zs)) (hnz : n ≤ 9223372036854775807) (hc : w.cell? ⟨pb, 0, none⟩ = some (.slice pa pn pc)) (hr : Rd w pa pn 1 (ints .i64 P)) (hn : pn ≤ 9223372036854775807) :
    Calls Tryz.prog 67 #[.slice a n cap, .func (.func 43) #[] #[.pointer (some ⟨pb, 0, none⟩)]] w (RetIx (zs.any fun y => decide (y ∈ P)) w) := by
  have HL := Lib.hid hz.len1
  have HR := Lib.hid hz; clear hz
  have HC := Lib.hid (fun y => needs1 y pb pa pn pc P w hc hr hn)
  clear hc hr
  go_enter Tryz.func67, Tryz.ntmps67
  go_wp2
  go_loop [8] (fun i => ∃ k : Nat, k ≤ n ∧ i = .int .i64 k ∧ ∀ y, y ∈ zs.take k → ¬ y ∈ P) (fun i => n - (Go.RowKit.intOf i).toNat)
  case atStart => exact ⟨0, Nat.zero_le _, rfl, by simp⟩
  case round =>
    obtain ⟨k, hk, rfl, hall⟩ := hrel
    have HA := Lib.hid hall; clear hall
    by_cases hlt : k < n
    · obtain ⟨b, off, z0, rfl, hx, c0⟩ := HR.out.at1 hlt
      have HX := Lib.hid hx; clear hx
      by_cases hq : z0 ∈ P
      · have HD := Lib.hid (decide_eq_true hq)
        go_wp2_with (go_at_call 43; refine (HC.out z0).mono ?_; rintro e w1 ⟨rfl, rfl⟩; rw [HD.out])
        go_ret
        refine ⟨k, rfl, ?_, rfl⟩
        rw [decide_eq_true (by omega)]
        exact (List.any_eq_true.2 ⟨z0, List.mem_of_getElem? HX.out, decide_eq_true hq⟩).symm
      · have HD := Lib.hid (decide_eq_false hq)
        have HQ := Lib.hid hq; clear hq
        go_wp2_with (go_at_call 43; refine (HC.out z0).mono ?_; rintro e w1 ⟨rfl, rfl⟩; rw [HD.out])
        go_round
        case rel =>
          refine ⟨k + 1, by omega, by go_num, fun y hy => ?_⟩
          rw [take_get HX.out] at hy
          rcases List.mem_append.1 hy with hy | hy
          · exact HA.out y hy
          · rw [List.mem_singleton.1 hy]
            exact HQ.out
        case measure => simp [Go.RowKit.intOf]; omega
    · go_wp2
      go_ret
      refine ⟨-1, rfl, ?_, rfl⟩
      rw [decide_eq_false (by omega)]
      symm
      rw [List.any_eq_false]
      have := HA.out
      rw [List.take_of_length_le (by have := HL.out; omega)] at this
      exact fun y hy => by simpa using this y hy
theorem containsFunc (a : Option Addr) (n cap : Nat) (zs : List Int) (pb : Nat) (pa : Option Addr) (pn pc : Nat) (P : List Int) (w : World) (hz : Rd w a n 1 (ints .i64 zs)) (hnz : n ≤ 9223372036854775807) (hc : w.cell? ⟨pb, 0, none⟩ = some (.slice pa pn pc)) (hr : Rd w pa pn 1 (ints .i64 P)) (hn : pn ≤ 9223372036854775807) :
    Calls Tryz.prog 42 #[.slice a n cap, .func (.func 43) #[] #[.pointer (some ⟨pb, 0, none⟩)]] w (RetT (zs.any fun y => decide (y ∈ P)) w) := by
  have C := Lib.hid (indexFunc a n cap zs pb pa pn pc P w hz hnz hc hr hn)
  clear hz hc hr
  go_enter Tryz.func42, Tryz.ntmps42
  go_wp2_with fail
  refine C.out.mono ?_
  rintro e w1 ⟨z, rfl, hz, rfl⟩
  have HZ := Lib.hid hz; clear hz
  go_wp2
  go_ret
  exact ⟨by rw [← HZ.out]; rfl, rfl⟩

/-- A number is handed back, nothing is touched. -/
def RetN (z : Int) (w : World) (e : Ending) (w' : World) : Prop := e = .returned (.int .i64 z) ∧ w = w'
theorem ofL_at {parts : List (List Int)} {x : Int} {k : Nat} {q : List Int} (h : ∀ p, p ∈ parts.take k → ¬ x ∈ p) (hk : parts[k]? = some q) (hx : x ∈ q) : ofL parts x = k := by
  have : parts.findIdx? (fun q => decide (x ∈ q)) = some k := by
    obtain ⟨hlt, he⟩ := List.getElem?_eq_some_iff.1 hk
    rw [List.findIdx?_eq_some_iff_getElem]
    refine ⟨hlt, by rw [he]; simpa using hx, fun j hj => ?_⟩
    have := h parts[j] (List.mem_of_getElem? (i := j) (by rw [List.getElem?_take, if_pos hj]; exact List.getElem?_eq_getElem _))
    simpa using this
  simp [ofL, this]
theorem ofL_none {parts : List (List Int)} {x : Int} (h : ∀ p, p ∈ parts → ¬ x ∈ p) : ofL parts x = -1 := by
  have : parts.findIdx? (fun q => decide (x ∈ q)) = none := by
    rw [List.findIdx?_eq_none_iff]
    exact fun p hp => by simpa using h p hp
  simp [ofL, this]
theorem ofL_ge (parts : List (List Int)) (x : Int) : -1 ≤ ofL parts x ∧ ofL parts x < parts.length := by
  unfold ofL
  split
  · rename_i k hk
    have := (List.findIdx?_eq_some_iff_getElem.1 hk).1
    omega
  · omega
theorem l6Of (a : Option Addr) (n cap : Nat) (parts : List (List Int)) (x : Int) (w : World) (hr : RdLL w a n parts) (hn : n ≤ 1000) (hb : ∀ l, l ∈ parts → l.length ≤ 1000) :
    Calls Tryz.prog 50 #[.slice a n cap, .int .i64 x] w (RetN (ofL parts x) w) := by
  have HL := Lib.hid hr.len
  have HR := Lib.hid hr; clear hr
  go_enter Tryz.func50, Tryz.ntmps50
  go_wp2
  go_loop [5] (fun i => ∃ k : Nat, k ≤ n ∧ i = .int .i64 k ∧ ∀ p, p ∈ parts.take k → ¬ x ∈ p) (fun i => n - (Go.RowKit.intOf i).toNat)
  case atStart => exact ⟨0, Nat.zero_le _, rfl, by simp⟩
  case round =>
    obtain ⟨k, hk, rfl, hall⟩ := hrel
    have HA := Lib.hid hall; clear hall
    by_cases hlt : k < n
    · obtain ⟨b, off, l, la, lc, rfl, hx, hc, hrd, h1, h2⟩ := rdLL_at HR.out hlt
      have hl := hb l (List.mem_of_getElem? hx)
      have C := Lib.hid (l6Has la l.length lc l x w hrd (by omega))
      have HX := Lib.hid hx; clear hx hrd
      by_cases hq : x ∈ l
      · have HD := Lib.hid (decide_eq_true hq)
        go_wp2_with (go_at_call 49; refine C.out.mono ?_; rintro e w1 ⟨rfl, rfl⟩; rw [HD.out])
        go_ret
        exact ⟨by rw [ofL_at HA.out HX.out hq]; rfl, rfl⟩
      · have HD := Lib.hid (decide_eq_false hq)
        have HQ := Lib.hid hq; clear hq
        go_wp2_with (go_at_call 49; refine C.out.mono ?_; rintro e w1 ⟨rfl, rfl⟩; rw [HD.out])
        go_round
        case rel =>
          refine ⟨k + 1, by omega, by go_num, fun p hp => ?_⟩
          rw [take_get HX.out] at hp
          rcases List.mem_append.1 hp with hp | hp
          · exact HA.out p hp
          · rw [List.mem_singleton.1 hp]
            exact HQ.out
        case measure => simp [Go.RowKit.intOf]; omega
    · go_wp2
      go_ret
      refine ⟨?_, rfl⟩
      have := HA.out
      rw [List.take_of_length_le (by have := HL.out; omega)] at this
      rw [ofL_none this]
      rfl
end Go.Proofs.YtnjoofpllhbccaaGreat

/- Rows of rows of numbers as answers: compared, marked, held. No condition. -/
namespace Go.Proofs.YtnjoofpllhbccaaGreat
open Go.RowKit
set_option linter.unusedVariables false
set_option linter.unusedSimpArgs false
attribute [local go_sem] ext_cell ext_frozen ext_lt ext_le ext_le1 lt_s2 lt_s3 lt_s4 lt_s5 lt_s6 ext_lt1 ext_lt2 ext_lt3

/-- The answer: a row of rows of the call's own. -/
def RetLL (ls : List (List Int)) (w : World) (e : Ending) (w' : World) : Prop := ∃ a c ms, e = .returned (.slice a ls.length c) ∧ OwnLL w' w.heap.size (.slice a ls.length c) ms ∧ ms.map (·.1) = ls ∧ Grew w w'
theorem retLL_of {P : Program} {f : FuncId} {args : Array Value} {w : World} {L S : List (List Int)} (h : Calls P f args w (RetLL L w)) (hS : L = S) : Calls P f args w (RetLL S w) := hS ▸ h
theorem ll_len {ms : List (List Int × Value)} {ls : List (List Int)} (h : ms.map (·.1) = ls) : ms.length = ls.length := by rw [← h]; simp

/-- Marked numbers. -/
def markZ (k m : Nat) : List Int := (List.range m).map fun j => ((k + j : Nat) : Int)
theorem markZ_ints (k m : Nat) : markI k m = ints .i64 (markZ k m) := by simp [markI, markZ, ints]
theorem markZ_len (k m : Nat) : (markZ k m).length = m := by simp [markZ]
def marksL : Nat → List (List Int × Value) → List (List Int × Value)
  | _, [] => []
  | k, m :: ms => (markZ k m.1.length, m.2) :: marksL (k + m.1.length) ms
def sumL (ms : List (List Int × Value)) : Nat := (ms.map fun m => m.1.length).sum
theorem marksL_len : ∀ (k : Nat) (ms : List (List Int × Value)), (marksL k ms).length = ms.length
  | _, [] => rfl
  | k, m :: ms => by rw [marksL, List.length_cons, marksL_len]; rfl
theorem marksL_snoc : ∀ (k : Nat) (ms : List (List Int × Value)) (m : List Int × Value), marksL k (ms ++ [m]) = marksL k ms ++ [(markZ (k + sumL ms) m.1.length, m.2)]
  | k, [], m => by simp [marksL, sumL]
  | k, x :: ms, m => by
    rw [List.cons_append, marksL, marksL_snoc, marksL, List.cons_append]
    simp [sumL, Nat.add_assoc]
theorem marksL_vals : ∀ (k : Nat) (ms : List (List Int × Value)), (marksL k ms).map (·.2) = ms.map (·.2)
  | _, [] => rfl
  | k, m :: ms => by rw [marksL, List.map_cons, marksL_vals, List.map_cons]
theorem sumL_snoc (ms : List (List Int × Value)) (m : List Int × Value) : sumL (ms ++ [m]) = sumL ms + m.1.length := by simp [sumL]
theorem sumL_le {ms : List (List Int × Value)} {N : Nat} (h : ∀ m, m ∈ ms → m.1.length ≤ N) : sumL ms ≤ ms.length * N := by
  induction ms with
  | nil => simp [sumL]
  | cons m ms ih =>
    have h1 := ih (fun x hx => h x (by simp [hx]))
    have h2 := h m (by simp)
    simp only [sumL, List.map_cons, List.sum_cons, List.length_cons] at h1 ⊢
    rw [Nat.succ_mul]
    omega
/-- Row k of them. -/
theorem OwnLL.at_ {w : World} {B n c : Nat} {a : Option Addr} {ms : List (List Int × Value)} (h : OwnLL w B (.slice a n c) ms) {k : Nat} {m : List Int × Value} (hm : ms[k]? = some m) : ∃ b off la lc, a = some ⟨b, off, none⟩ ∧ m.2 = .slice la m.1.length lc ∧ w.cell? ⟨b, off + k, none⟩ = some (.slice la m.1.length lc) ∧ w.ownsRow B 3 1 (.slice la m.1.length lc) m.1.length (ints .i64 m.1) := by
  obtain ⟨A, cc, e⟩ := owns_slice h.row
  simp only [Value.slice.injEq] at e
  obtain ⟨rfl, rfl, rfl⟩ := e
  have hr := owns_rd h.row
  have ho := h.each m (List.mem_of_getElem? hm)
  obtain ⟨la, lc, hv⟩ := owns_slice ho
  rcases hr.2 with e | ⟨b, off, rfl, hc⟩
  · have h1 := congrArg List.length e
    have h2 := (List.getElem?_eq_some_iff.1 hm).1
    simp only [List.length_map, List.length_nil] at h1
    omega
  · have h9 : w.cell? ⟨b, off + k, none⟩ = some m.2 := hc k _ (by rw [List.getElem?_map, hm]; rfl)
    rw [hv] at h9 ho
    exact ⟨b, off, la, lc, rfl, hv, h9, ho⟩
/-- Row k is written anew. -/
theorem OwnLL.turn {w w' : World} {B : Nat} {v : Value} {xs ys : List (List Int × Value)} {m : List Int × Value} {l : List Int} (h : OwnLL w B v (xs ++ m :: ys)) (hl : l.length = m.1.length)
    (ho : w'.ownsRow B 3 1 m.2 m.1.length (ints .i64 l)) (c : Chg (fun b => m.2.ownBlock = some b) w w') : OwnLL w' B v (xs ++ (l, m.2) :: ys) := by
  have hm := h.each m (by simp)
  obtain ⟨p1, p2, p3⟩ := List.pairwise_append.1 h.apart
  obtain ⟨p4, p5⟩ := List.pairwise_cons.1 p2
  have hlen : (xs ++ (l, m.2) :: ys).length = (xs ++ m :: ys).length := by simp
  refine ⟨?_, fun u hu => ?_, ?_⟩
  · rw [hlen, show (xs ++ (l, m.2) :: ys).map (·.2) = (xs ++ m :: ys).map (·.2) from by simp]
    exact owns_chg h.row c (fun b e1 e2 => row_row_ne hm h.row (by decide) e2 e1)
  · rcases List.mem_append.1 hu with hx | hx
    · exact owns_chg (h.each u (by simp [hx])) c (fun b e1 e2 => p3 u hx m (by simp) b e1 e2)
    · rcases List.mem_cons.1 hx with rfl | hx
      · simp only [hl]
        exact ho
      · exact owns_chg (h.each u (by simp [hx])) c (fun b e1 e2 => p4 u hx b e2 e1)
  · refine List.pairwise_append.2 ⟨p1, List.pairwise_cons.2 ⟨fun u hu b e1 e2 => p4 u hu b e1 e2, p5⟩, fun u hu u' hu' b e1 e2 => ?_⟩
    rcases List.mem_cons.1 hu' with rfl | hu'
    · exact p3 u hu m (by simp) b e1 e2
    · exact p3 u hu u' (by simp [hu']) b e1 e2

theorem marksL_get : ∀ (k0 : Nat) (ms : List (List Int × Value)) (k : Nat) (m : List Int × Value), ms[k]? = some m → (marksL k0 ms)[k]? = some (markZ (k0 + sumL (ms.take k)) m.1.length, m.2)
  | _, [], k, m, h => by simp at h
  | k0, x :: ms, 0, m, h => by
    simp only [List.getElem?_cons_zero, Option.some.injEq] at h
    subst h
    simp [marksL, sumL]
  | k0, x :: ms, k + 1, m, h => by
    rw [List.getElem?_cons_succ] at h
    rw [marksL, List.getElem?_cons_succ, marksL_get _ ms k m h]
    simp [sumL, Nat.add_assoc]
/-! GrfParts. -/
def grfParts (ps : List Prc) : List (List Int) := if prgOkB ps then ptOf ps else []
theorem ptOf_bd {ps : List Prc} (hB : prgOkB ps = true) : (ptOf ps).length ≤ 4 ∧ ∀ l, l ∈ ptOf ps → l.length ≤ 4 := by
  have h4 := (prg_len hB).2
  have h1 := (prg_len hB).1
  have hok := gok_of hB
  have hp := reach_pl hok (a := 0) (by rw [csOf_len]; omega)
  have hr := hp.len
  rw [csOf_len] at hr
  constructor
  · simp only [ptOf, partsL, partsP, List.length_map]
    rw [← csOf_len ps]
    have := List.length_filter_le (firstB (cOf' (csOf ps)) (csOf ps).length) (reachL (cOf' (csOf ps)) (csOf ps).length 0)
    rw [csOf_len] at this ⊢
    omega
  · intro l hl
    simp only [ptOf, partsL, partsP, List.mem_map] at hl
    obtain ⟨x, hx, rfl⟩ := hl
    rw [← csOf_len ps] at hx ⊢
    have := (part_pl hok (hp.b x (List.mem_filter.1 hx).1)).len
    rw [csOf_len] at this ⊢
    omega
end Go.Proofs.YtnjoofpllhbccaaGreat

/- What a part needs, the program's side. No condition. -/
namespace Go.Proofs.YtnjoofpllhbccaaGreat
open Go.RowKit
set_option linter.unusedVariables false
set_option linter.unusedSimpArgs false
attribute [local go_sem] ext_cell ext_frozen ext_lt ext_le ext_le1 lt_s2 lt_s3 lt_s4 lt_s5 lt_s6 ext_lt1 ext_lt2 ext_lt3

/-- A graph with its parts, read. -/
structure GrR (w : World) (gb : Nat) (cs parts : List (List Int)) : Prop where
  c : ∃ ca cc, w.cell? ⟨gb, 1, none⟩ = some (.slice ca cs.length cc) ∧ RdLL w ca cs.length cs
  p : ∃ pa pc, w.cell? ⟨gb, 2, none⟩ = some (.slice pa parts.length pc) ∧ RdLL w pa parts.length parts
theorem GrOwn.rd {w : World} {B gb : Nat} {cs parts : List (List Int)} (h : GrOwn w B gb cs parts) : GrR w gb cs parts := by
  obtain ⟨⟨x, cv, pv, cms, pms, h1, h2, h3, h4, h5⟩, h6, h7, h8⟩ := h
  obtain ⟨ca, cc, rfl⟩ := owns_slice h2.row
  obtain ⟨pa, pc, rfl⟩ := owns_slice h4.row
  refine ⟨⟨ca, cc, by rw [← ll_len h3]; exact h1.cell 1, ?_⟩, ⟨pa, pc, by rw [← ll_len h5]; exact h1.cell 2, ?_⟩⟩
  · have := h2.rd rfl
    rwa [h3, ll_len h3] at this
  · have := h4.rd rfl
    rwa [h5, ll_len h5] at this
theorem GrR.grew {w w' : World} {gb : Nat} {cs parts : List (List Int)} (h : GrR w gb cs parts) (g : Grew w w') : GrR w' gb cs parts := by
  obtain ⟨⟨ca, cc, h1, h2⟩, ⟨pa, pc, h3, h4⟩⟩ := h
  exact ⟨⟨ca, cc, (g.cell (p := ⟨gb, 1, none⟩) (World.block_lt_of_cell? w _ h1)).trans h1, RdL.grew stays_ints h2 g⟩, ⟨pa, pc, (g.cell (p := ⟨gb, 2, none⟩) (World.block_lt_of_cell? w _ h3)).trans h3, RdL.grew stays_ints h4 g⟩⟩
/-- The first i parts that part k calls. -/
def needsN (c : Int → List Int) (parts : List (List Int)) (k i : Nat) : List Int := ((List.range i).filter fun o => o != k && needB c parts k o).map fun o : Nat => (o : Int)
theorem needsN_succ (c : Int → List Int) (parts : List (List Int)) (k i : Nat) : needsN c parts k (i + 1) = needsN c parts k i ++ if (i != k && needB c parts k i) then [(i : Int)] else [] := by
  unfold needsN
  rw [List.range_succ, List.filter_append, List.map_append]
  congr 1
  cases h : (i != k && needB c parts k i) <;> simp [h]
theorem needsN_len (c : Int → List Int) (parts : List (List Int)) (k i : Nat) : (needsN c parts k i).length ≤ i := by
  unfold needsN
  rw [List.length_map]
  exact Nat.le_trans (List.length_filter_le _ _) (by simp)

set_option maxRecDepth 100000 in
set_option maxHeartbeats 4000000 in
theorem implNeeds (gb k : Nat) (cs parts : List (List Int)) (w : World) (h : GrR w gb cs parts) (hk : k < parts.length) (hp4 : parts.length ≤ 4) (hq4 : ∀ q, q ∈ parts → q.length ≤ 4) (hqb : ∀ q, q ∈ parts → ∀ x, x ∈ q → 0 ≤ x ∧ x < cs.length) (hc4 : cs.length ≤ 4) (hcl : ∀ l, l ∈ cs → l.length ≤ 10) :
    Calls Tryz.prog 25 #[.pointer (some ⟨gb, 0, none⟩), .int .i64 k] w (RetIs (needsI (cOf' cs) parts k) w) := by
  have HG := Lib.hid h
  obtain ⟨⟨ca, cc, hc1, -⟩, ⟨pa, pc, hc2, hpr⟩⟩ := h
  have HPR := Lib.hid hpr
  have HC2 := Lib.hid hc2
  have HC1 := Lib.hid hc1
  have lgb := World.block_lt_of_cell? w _ hc1
  simp only at lgb
  clear hpr hc1
  go_enter Tryz.func25, Tryz.ntmps25
  go_wp2
  clear hc2
  go_loopw [5, 15] (fun v i wr => ∃ m : Nat, m ≤ parts.length ∧ i = .int .i64 m ∧ Grew w wr ∧ wr.ownsRow w.heap.size 3 1 v (needsN (cOf' cs) parts k m).length (ints .i64 (needsN (cOf' cs) parts k m))) (fun _ i _ => parts.length - (Go.RowKit.intOf i).toNat)
  case atStart => exact ⟨0, Nat.zero_le _, rfl, Below.refl _ _, by simpa [needsN, ints] using World.ownsRow_nil _ _ _ _⟩
  case round =>
    obtain ⟨m, hm, rfl, hg, ho⟩ := hrel
    have hnl := needsN_len (cOf' cs) parts k m
    have hns := Lib.hid (needsN_succ (cOf' cs) parts k m)
    obtain ⟨oa, oc, rfl⟩ := owns_slice ho
    have hsz := hg.size
    have hgne : ¬ gb = wr.heap.size := by omega
    have hq2 : wr.cell? ⟨gb, 2, none⟩ = some (.slice pa parts.length pc) := (hg.cell (p := ⟨gb, 2, none⟩) lgb).trans HC2.out
    have hq1 : wr.cell? ⟨gb, 1, none⟩ = some (.slice ca cs.length cc) := (hg.cell (p := ⟨gb, 1, none⟩) lgb).trans HC1.out
    by_cases hlt : m < parts.length
    · have hns0 := hns.out
      obtain ⟨N, hNd⟩ : ∃ N, needsN (cOf' cs) parts k m = N := ⟨_, rfl⟩
      rw [hNd] at hnl hns0 ho
      clear hns
      have hns := Lib.hid hns0
      have HND := Lib.hid hNd
      simp only [hNd]
      clear hns0 hNd
      obtain ⟨pb, poff, q, la, lc, rfl, hx, hcell, hrd, h1, h2⟩ := rdLL_at (RdL.grew stays_ints HPR.out hg) hlt
      obtain ⟨pb2, poff2, Q, Qa, Qc, e2, hxQ, hcellQ, hrdQ, h3, h4⟩ := rdLL_at (RdL.grew stays_ints HPR.out hg) hk
      obtain ⟨rfl, rfl⟩ : pb2 = pb ∧ poff2 = poff := by simpa [eq_comm] using e2
      clear e2
      have hql := hq4 q (List.mem_of_getElem? hx)
      have hQl := hq4 Q (List.mem_of_getElem? hxQ)
      have hQb := hqb Q (List.mem_of_getElem? hxQ)
      have lpb := World.block_lt_of_cell? wr _ hcell
      simp only at lpb
      have hpne : ¬ pb2 = wr.heap.size := by omega
      have hqe : parts.getD m [] = q := by simp [hx]
      have hQe : parts.getD k [] = Q := by simp [hxQ]
      have hg2 : Grew wr (wr.alloc (.cells #[.slice la q.length lc] 28)) := grew_al (Below.refl _ _) _
      have HGW := Lib.hid (grew_tr hg hg2)
      have HO := Lib.hid (owns_grew ho hg2)
      have HRQ := Lib.hid (hrdQ.grew hg2)
      have HRq := Lib.hid (hrd.grew hg2)
      have HG2 := Lib.hid (HG.out.grew (grew_tr hg hg2))
      have hbx : (wr.alloc (.cells #[.slice la q.length lc] 28)).cell? ⟨wr.heap.size, 0, none⟩ = some (.slice la q.length lc) := by simp [go_sem]
      have HBX := Lib.hid hbx
      have hle := hg2.size
      by_cases hmk : m = k
      · subst hmk
        have HN : Hid (needsN (cOf' cs) parts m (m + 1) = N) := Lib.hid (by rw [hns.out]; simp)
        have b1 : ((m : Int) == (m : Int)) = true := by simp
        clear hx hrd hxQ hrdQ hg ho hns HRQ HRq hbx hcellQ
        go_wp2
        go_roundw
        case rel => exact ⟨m + 1, by omega, by go_num, HGW.out, by rw [HN.out]; exact HO.out⟩
        case measure => simp [Go.RowKit.intOf]; omega
      · have HN : Hid (needsN (cOf' cs) parts k (m + 1) = N ++ if (Q.any fun x => (cOf' cs x).any fun y => decide (y ∈ q)) then [(m : Int)] else []) := Lib.hid (by rw [hns.out, needB, hqe, hQe]; simp [hmk])
        have HQB := Lib.hid hQb
        have b1 : ((m : Int) == (k : Int)) = false := by simp; omega
        have f1 : (wr.alloc (.cells #[.slice la q.length lc] 28)).cell? ⟨gb, 1, none⟩ = some (.slice ca cs.length cc) := by rw [World.cell?_alloc_old _ _ _ hgne]; exact hq1
        have f2 : (wr.alloc (.cells #[.slice la q.length lc] 28)).cell? ⟨gb, 2, none⟩ = some (.slice (some ⟨pb2, poff2, none⟩) parts.length pc) := by rw [World.cell?_alloc_old _ _ _ hgne]; exact hq2
        have f3 : (wr.alloc (.cells #[.slice la q.length lc] 28)).cell? ⟨pb2, poff2 + k, none⟩ = some (.slice Qa Q.length Qc) := by rw [World.cell?_alloc_old _ _ _ hpne]; exact hcellQ
        clear hx hrd hxQ hrdQ hg ho hns hqe hQe hQb
        go_wp2
        go_loop [5, 31] (fun v i => ∃ j : Nat, j ≤ Q.length ∧ i = .int .i64 j ∧ v = .slice oa N.length oc ∧ ∀ x, x ∈ Q.take j → ((cOf' cs x).any fun y => decide (y ∈ q)) = false) (fun _ i => Q.length - (Go.RowKit.intOf i).toNat)
        case atStart => exact ⟨0, Nat.zero_le _, rfl, rfl, by simp⟩
        case round =>
          obtain ⟨j, hj, rfl, rfl, hall⟩ := hrel
          have HA := Lib.hid hall; clear hall
          by_cases hlj : j < Q.length
          · obtain ⟨qb, qoff, x, rfl, hxj, hcx⟩ := HRQ.out.at1 hlj
            obtain ⟨hx0, hx1⟩ := HQB.out x (List.mem_of_getElem? hxj)
            obtain ⟨xn, rfl⟩ := Int.eq_ofNat_of_zero_le hx0
            obtain ⟨⟨ca', cc', e1, hcr⟩, -⟩ := HG2.out
            rw [f1, Option.some.injEq, Value.slice.injEq] at e1
            obtain ⟨rfl, -, rfl⟩ := e1
            obtain ⟨cb, coff, r, ra, rc, rfl, hxr, hcr2, hrdr, h5, h6⟩ := rdLL_at hcr (k := xn) (by omega)
            have hre : cOf' cs (xn : Int) = r := by simp [cOf', hxr]
            have hrl := hcl r (List.mem_of_getElem? hxr)
            have C := Lib.hid (containsFunc ra r.length rc r wr.heap.size la q.length lc q _ hrdr (by omega) HBX.out HRq.out (by omega))
            have HXJ := Lib.hid hxj
            have HRE := Lib.hid hre
            obtain ⟨T, hT⟩ : ∃ T, (r.any fun y => decide (y ∈ q)) = T := ⟨_, rfl⟩
            rw [hT] at C
            have HT := Lib.hid hT
            clear hxj hre hT hrdr hxr hcr
            cases T
            · go_wp2_with fail
              refine C.out.mono ?_
              rintro e w5 ⟨rfl, rfl⟩
              go_wp2
              go_round
              case rel =>
                refine ⟨j + 1, by omega, by go_num, rfl, fun y hy => ?_⟩
                rw [take_get HXJ.out] at hy
                rcases List.mem_append.1 hy with hy | hy
                · exact HA.out y hy
                · rw [List.mem_singleton.1 hy, HRE.out]
                  exact HT.out
              case measure => simp [Go.RowKit.intOf]; omega
            · have HF : Hid (needsN (cOf' cs) parts k (m + 1) = N ++ [(m : Int)]) := Lib.hid (by
                rw [HN.out, if_pos]
                exact List.any_eq_true.2 ⟨(xn : Int), List.mem_of_getElem? HXJ.out, by rw [HRE.out]; exact HT.out⟩)
              obtain ⟨a2, c2, w2, r2, o2, g2⟩ := appOne (w := w) (m : Int) HO.out (by omega) HGW.out
              simp only [World.size_alloc] at r2
              have R2 := Lib.hid r2
              have O2 := Lib.hid o2
              have G2 := Lib.hid g2
              clear r2 o2 g2
              go_wp2_with fail
              refine C.out.mono ?_
              rintro e w5 ⟨rfl, rfl⟩
              clear C HRQ HRq HG2 f1 f2 f3 hq1 hq2 HBX HXJ HRE HT HA HN
              go_wp2_with (at_builtin; refine wpList_append_run rfl _ _ rfl rfl rfl rfl R2.out ?_; clear R2)
              go_roundw
              case rel => exact ⟨m + 1, by omega, by go_num, G2.out, by rw [HF.out, List.length_append]; exact O2.out⟩
              case measure => simp [Go.RowKit.intOf]; omega
          · obtain rfl : j = Q.length := by omega
            have hA := HA.out
            rw [List.take_length] at hA
            have HF : Hid (needsN (cOf' cs) parts k (m + 1) = N) := Lib.hid (by
              rw [HN.out, if_neg, List.append_nil]
              rw [Bool.not_eq_true, List.any_eq_false]
              intro x hx
              rw [hA x hx]
              simp)
            clear hA
            go_wp2
            go_roundw
            case rel => exact ⟨m + 1, by omega, by go_num, HGW.out, by rw [HF.out]; exact HO.out⟩
            case measure => simp [Go.RowKit.intOf]; omega
    · obtain rfl : m = parts.length := by omega
      have HO := Lib.hid ho
      have HGW := Lib.hid hg
      clear ho hg hq1 hq2
      go_wp2
      go_ret
      exact ⟨oa, oc, rfl, HO.out, HGW.out⟩
end Go.Proofs.YtnjoofpllhbccaaGreat

/- What a part needs, the reference's side. No condition. -/
namespace Go.Proofs.YtnjoofpllhbccaaGreat
open Go.RowKit
set_option linter.unusedVariables false
set_option linter.unusedSimpArgs false
attribute [local go_sem] ext_cell ext_frozen ext_lt ext_le ext_le1 lt_s2 lt_s3 lt_s4 lt_s5 lt_s6 ext_lt1 ext_lt2 ext_lt3

theorem needP_len (parts : List (List Int)) (k : Int) (out : List Int) (y : Int) : (needP parts k out y).length ≤ out.length + 2 := by
  unfold needP
  split
  · exact putF_len _ _
  · omega

set_option maxRecDepth 100000 in
set_option maxHeartbeats 4000000 in
theorem l6Needs (a : Option Addr) (n cap : Nat) (ps : List Prc) (pa : Option Addr) (pn pc : Nat) (parts : List (List Int)) (k : Nat) (w : World) (hr : RdP w a n ps) (hn : n ≤ 9223372036854775807) (hB : prgOkB ps = true)
    (hpr : RdLL w pa pn parts) (hk : k < parts.length) (hp4 : pn ≤ 4) (hq4 : ∀ q, q ∈ parts → q.length ≤ 4) (hqb : ∀ q, q ∈ parts → ∀ x, x ∈ q → 0 ≤ x ∧ x < n) :
    Calls Tryz.prog 29 #[.agg #[.slice a n cap], .slice pa pn pc, .int .i64 k] w (RetIs (needsS (cOf' (csOf ps)) parts k) w) := by
  have HCL := Lib.hid (fun k => cs_len hB k)
  have HC := Lib.hid (fun (proc : Int) (hp : 0 ≤ proc ∧ proc < n) W (g : Grew w W) => l6Calls a n cap ps proc W (hr.grew g) hn hB hp)
  have hpl := hpr.len
  have HOf := Lib.hid (fun (x : Int) W (g : Grew w W) => l6Of pa pn pc parts x W (RdL.grew stays_ints hpr g) (by omega) (fun l hl => Nat.le_trans (hq4 l hl) (by omega)))
  obtain ⟨c, hcc⟩ : ∃ c, cOf' (csOf ps) = c := ⟨_, rfl⟩
  rw [hcc] at HC HCL
  rw [hcc]
  obtain ⟨pb, poff, Q, Qa, Qc, rfl, hxQ, hcellQ, hrdQ, h3, h4⟩ := rdLL_at hpr (k := k) (by omega)
  have HQB := Lib.hid (hqb Q (List.mem_of_getElem? hxQ))
  have hQl := hq4 Q (List.mem_of_getElem? hxQ)
  have HE := Lib.hid (show needsS c parts k = Q.foldl (fun out i => (c i).foldl (needP parts k) out) [] from by simp [needsS, hxQ])
  obtain ⟨P, hP⟩ : ∃ P, needP parts (k : Int) = P := ⟨_, rfl⟩
  have HPL := Lib.hid (fun out y => needP_len parts (k : Int) out y)
  have HPE := Lib.hid (fun out y (h : ofL parts y = (k : Int)) => show needP parts (k : Int) out y = out from by simp [needP, h])
  have HPN := Lib.hid (fun out y (h : ¬ ofL parts y = (k : Int)) => show needP parts (k : Int) out y = putF out (ofL parts y) from by simp [needP, h])
  have HOB := Lib.hid (fun y => ofL_ge parts y)
  rw [hP] at HE HPL HPE HPN
  have HRQ := Lib.hid hrdQ
  have H0 := Lib.hid (show ((w.alloc (.cells #[.slice a n cap] 25)).alloc (.cells #[] 3)).ownsRow w.heap.size 3 1 (.slice (some ⟨w.heap.size + 1, 0, none⟩) 0 0) 0 (ints .i64 []) from by
    simpa [ints] using World.ownsRow_lit (w.alloc (.cells #[.slice a n cap] 25)) (e := 3) (size := 1) #[] 0 (base := w.heap.size) (by simp) (Nat.zero_le _) rfl)
  have HCQ := Lib.hid hcellQ
  have lpb := World.block_lt_of_cell? w _ hcellQ
  simp only at lpb
  clear hr hB hcc hpr hxQ hrdQ hP hq4 hqb hcellQ
  go_enter Tryz.func29, Tryz.ntmps29
  go_wp2
  go_loopw [7, 8] (fun v i wr => ∃ m : Nat, m ≤ Q.length ∧ i = .int .i64 m ∧ Grew (w.alloc (.cells #[.slice a n cap] 25)) wr ∧ ((Q.take m).foldl (fun out i => (c i).foldl P out) []).length ≤ 20 * m ∧ wr.ownsRow w.heap.size 3 1 v ((Q.take m).foldl (fun out i => (c i).foldl P out) []).length (ints .i64 ((Q.take m).foldl (fun out i => (c i).foldl P out) []))) (fun _ i _ => Q.length - (Go.RowKit.intOf i).toNat)
  case atStart => exact ⟨0, Nat.zero_le _, rfl, grew_al (Below.refl _ _) _, Nat.le_refl _, H0.out⟩
  case round =>
    clear H0
    obtain ⟨m, hm, rfl, hg, hS20, ho⟩ := hrel
    obtain ⟨oa, oc, rfl⟩ := owns_slice ho
    have hb0 : wr.cell? ⟨w.heap.size, 0, none⟩ = some (.slice a n cap) := (hg.cell (p := ⟨w.heap.size, 0, none⟩) (by simp)).trans (by simp [go_sem])
    have hG := grew_tr (grew_al (Below.refl _ _) _) hg
    have hq0 : wr.cell? ⟨pb, poff + k, none⟩ = some (.slice Qa Q.length Qc) := (hG.cell (p := ⟨pb, poff + k, none⟩) lpb).trans HCQ.out
    by_cases hlt : m < Q.length
    · obtain ⟨b, off, y, rfl, hy, hcell⟩ := (HRQ.out.grew hG).at1 hlt
      have hyb := HQB.out y (List.mem_of_getElem? hy)
      have HR2 := Lib.hid (show (Q.take (m + 1)).foldl (fun out i => (c i).foldl P out) [] = (c y).foldl P ((Q.take m).foldl (fun out i => (c i).foldl P out) []) from by rw [take_get hy, List.foldl_append]; rfl)
      have HC2 := Lib.hid (fun W (g : Grew wr W) => HC.out y hyb W (grew_tr hG g))
      have hcl := HCL.out y
      obtain ⟨R, hR⟩ : ∃ R, (Q.take m).foldl (fun out i => (c i).foldl P out) [] = R := ⟨_, rfl⟩
      rw [hR] at HR2 ho hS20
      rw [hR]
      obtain ⟨Y, hY⟩ : ∃ Y, c y = Y := ⟨_, rfl⟩
      rw [hY] at HR2 HC2 hcl
      have HG2 := Lib.hid hG
      have HG3 := Lib.hid hg
      have HO2 := Lib.hid ho
      clear hR hY hg ho hy hG
      have HSG : Hid (∀ W, Grew wr W → W.cell? ⟨w.heap.size, 0, none⟩ = some (.slice a n cap) ∧ W.cell? ⟨pb, poff + k, none⟩ = some (.slice (some ⟨b, off, none⟩) Q.length Qc) ∧ W.cell? ⟨b, off + m, none⟩ = some (.int .i64 y)) := Lib.hid (fun W g => ⟨(g.cell (p := ⟨w.heap.size, 0, none⟩) (World.block_lt_of_cell? wr _ hb0)).trans hb0, (g.cell (p := ⟨pb, poff + k, none⟩) (World.block_lt_of_cell? wr _ hq0)).trans hq0, (g.cell (p := ⟨b, off + m, none⟩) (World.block_lt_of_cell? wr _ hcell)).trans hcell⟩)
      have i1 : (0 : Int) ≤ (k : Int) := by omega
      have i2 : (k : Int) < (pn : Int) := by omega
      have i3 : (0 : Int) ≤ (m : Int) := by omega
      have i4 : (m : Int) < (Q.length : Int) := by omega
      go_wp2_with fail
      go_region_held3 (fun W => W.cell? ⟨w.heap.size, 0, none⟩ = some (.slice a n cap) ∧ W.cell? ⟨pb, poff + k, none⟩ = some (.slice (some ⟨b, off, none⟩) Q.length Qc) ∧ W.cell? ⟨b, off + m, none⟩ = some (.int .i64 y)) (with_reducible (first | assumption | exact HSG.out _ (grew_d (Below.refl _ _))))
        ((go_at_call 47; (with_reducible refine (HC2.out _ (grew_d (Below.refl _ _))).mono ?_); rintro e w5 ⟨A5, c5, rfl, o5, g5⟩; have t5 := HSG.out _ (grew_tr (grew_d (Below.refl _ _)) g5)))
      have hww : w.heap.size ≤ wr.heap.size := HG2.out.size
      have O5 := Lib.hid (owns_mono o5 (show w.heap.size ≤ _ from by first | exact hww | (simp; omega)))
      have G5 := Lib.hid (grew_tr HG3.out (grew_tr (grew_d (Below.refl _ _)) g5))
      have OR := Lib.hid (owns_grew HO2.out (grew_tr (grew_d (Below.refl _ _)) g5))
      have hY9 : Y.length ≤ 9223372036854775807 := by omega
      clear HSG hb0 hq0 hcell o5 g5 HO2 HG2 HG3
      go_wp2
      obtain ⟨w6, hw6⟩ : ∃ w6, w5 = w6 := ⟨_, rfl⟩
      rw [hw6] at O5 G5 OR
      have HW6 := Lib.hid hw6
      clear hw6 t5
      go_loopw [7, 10] (fun v i wr => ∃ q : Nat, q ≤ Y.length ∧ i = .int .i64 q ∧ Grew w6 wr ∧ ((Y.take q).foldl P R).length ≤ 20 * m + 2 * q ∧ wr.ownsRow w.heap.size 3 1 v ((Y.take q).foldl P R).length (ints .i64 ((Y.take q).foldl P R))) (fun _ i _ => Y.length - (Go.RowKit.intOf i).toNat)
      case atStart => exact ⟨0, Nat.zero_le _, rfl, by rw [HW6.out]; exact Below.refl _ _, by simpa using hS20, by rw [HW6.out]; exact OR.out⟩
      case round =>
        obtain ⟨q, hq, rfl, hg, hl20, ho⟩ := hrel
        obtain ⟨xa, xc, rfl⟩ := owns_slice ho
        by_cases hlt3 : q < Y.length
        · obtain ⟨b3, off3, z, rfl, hz, hzc⟩ := ((owns_rd O5.out).grew hg).at1 hlt3
          have HE3 := Lib.hid (show (Y.take (q + 1)).foldl P R = P ((Y.take q).foldl P R) z from by rw [take_get hz, List.foldl_append]; rfl)
          have HL3 := HPL.out ((Y.take q).foldl P R) z
          have hzb := HOB.out z
          have hGw := grew_tr (grew_tr (grew_al (Below.refl _ _) _) G5.out) hg
          have C2 := Lib.hid (HOf.out z wr hGw)
          have hsz := hGw.size
          by_cases he : ofL parts z = (k : Int)
          · have HP := Lib.hid (HPE.out ((Y.take q).foldl P R) z he)
            rw [he] at C2
            have G6 := Lib.hid hg
            have O6 := Lib.hid ho
            have b1 : ((k : Int) == (k : Int)) = true := by simp
            clear hz ho hg he hGw
            go_wp2_with fail
            refine C2.out.mono ?_
            rintro e w7 ⟨rfl, rfl⟩
            clear hzc
            go_wp2
            go_roundw
            case rel => exact ⟨q + 1, by omega, by go_num, G6.out, by rw [HE3.out, HP.out]; omega, by rw [HE3.out, HP.out]; exact O6.out⟩
            case measure => simp [Go.RowKit.intOf]; omega
          · have HP := Lib.hid (HPN.out ((Y.take q).foldl P R) z he)
            have C3 := Lib.hid (l6Put xa _ xc ((Y.take q).foldl P R) (ofL parts z) wr (owns_rd ho) (by omega))
            obtain ⟨Z, hZ⟩ : ∃ Z, ofL parts z = Z := ⟨_, rfl⟩
            rw [hZ] at C2 C3 HP he hzb
            have b1 : (Z == (k : Int)) = false := by simp; exact he
            have G6 := Lib.hid hg
            clear hz ho hg he hGw hZ
            go_wp2_with fail
            refine C2.out.mono ?_
            rintro e w7 ⟨rfl, rfl⟩
            clear hzc
            go_wp2_with fail
            refine C3.out.mono ?_
            rintro e w7 ⟨A7, c7, rfl, o7, g7⟩
            have O7 := Lib.hid (owns_mono o7 hsz)
            have G7 := Lib.hid (grew_tr G6.out g7)
            clear o7 g7
            go_wp2
            go_roundw
            case rel => exact ⟨q + 1, by omega, by go_num, G7.out, by rw [HE3.out]; omega, by rw [HE3.out, HP.out]; exact O7.out⟩
            case measure => simp [Go.RowKit.intOf]; omega
        · obtain rfl : q = Y.length := by omega
          rw [List.take_length] at ho hl20 ⊢
          have O7 := Lib.hid ho
          have G7 := Lib.hid (grew_tr G5.out hg)
          clear ho hg
          go_wp2
          go_roundw
          case rel => exact ⟨m + 1, by omega, by go_num, G7.out, by rw [HR2.out]; omega, by rw [HR2.out]; exact O7.out⟩
          case measure => simp [Go.RowKit.intOf]; omega
    · obtain rfl : m = Q.length := by omega
      rw [List.take_length] at ho hS20 ⊢
      have O7 := Lib.hid ho
      have G7 := Lib.hid hG
      clear ho hg
      go_wp2
      go_ret
      rw [HE.out]
      exact ⟨oa, oc, rfl, O7.out, G7.out⟩
end Go.Proofs.YtnjoofpllhbccaaGreat

/- The parts of a program, the reference's side. No condition. -/
namespace Go.Proofs.YtnjoofpllhbccaaGreat
open Go.RowKit
set_option linter.unusedVariables false
set_option linter.unusedSimpArgs false
attribute [local go_sem] ext_cell ext_frozen ext_lt ext_le ext_le1 lt_s2 lt_s3 lt_s4 lt_s5 lt_s6 ext_lt1 ext_lt2 ext_lt3

/-- The loop over what procedure 0 reaches: k of them seen. -/
structure LS (w w2 : World) (c : Int → List Int) (N : Nat) (L : List Int) (k : Nat) (wr : World) (v : Value) (ms : List (List Int × Value)) : Prop where
  hc : Chg (fun b => b = w.heap.size + 1) w2 wr
  hv : ∀ b, v.ownBlock = some b → b = w.heap.size + 1 ∨ w2.heap.size ≤ b
  o : OwnLL wr w.heap.size v ms
  m : ms.map (·.1) = partsP c N (L.take k)
theorem LS.len {w w2 wr : World} {c : Int → List Int} {N k : Nat} {L : List Int} {v : Value} {ms : List (List Int × Value)} (h : LS w w2 c N L k wr v ms) : ms.length ≤ L.length := by
  rw [ll_len h.m]
  simp only [partsP, List.length_map]
  exact Nat.le_trans (List.length_filter_le _ _) (List.length_take_le' _ _)
theorem LS.skip {w w2 wr wr' : World} {c : Int → List Int} {N k : Nat} {L : List Int} {v : Value} {ms : List (List Int × Value)} {x : Int} (h : LS w w2 c N L k wr v ms) (hx : L[k]? = some x) (hf : firstB c N x = false) (g : Grew wr wr') : LS w w2 c N L (k + 1) wr' v ms :=
  ⟨h.hc.trans (Chg.of_below (F := fun b => b = w.heap.size + 1) g) (fun _ _ e => e) (fun _ _ e => e), h.hv, h.o.grew g, by rw [take_get hx, partsP_snoc, hf, h.m]; simp⟩
theorem LS.take {w w2 wr w5 w6 : World} {c : Int → List Int} {N k : Nat} {L : List Int} {v v6 u : Value} {ms : List (List Int × Value)} {x : Int} (h : LS w w2 c N L k wr v ms) (hx : L[k]? = some x) (hf : firstB c N x = true) (g : Grew wr w5) (hw : w.heap.size ≤ wr.heap.size)
    (hu : w5.ownsRow wr.heap.size 3 1 u (partL c N x).length (ints .i64 (partL c N x))) (o6 : w6.ownsRow w.heap.size 28 1 v6 (ms.length + 1) (ms.map (·.2) ++ [u])) (g6 : w5.grownBy w6 v.ownBlock) (h6 : v6.ownBlock = v.ownBlock ∨ v6.ownBlock = some (w5.heap.size + 1)) :
    LS w w2 c N L (k + 1) w6 v6 (ms ++ [(partL c N x, u)]) := by
  have c6 := Chg.of_grownBy g6
  refine ⟨(h.hc.trans (Chg.of_below (F := fun b => b = w.heap.size + 1) g) (fun _ _ e => e) (fun _ _ e => e)).trans c6 (fun _ _ e => e) (fun i hi e => by rcases h.hv i e with h | h <;> omega), fun b hb => ?_, h.o.snoc g hu hw o6 g6, by rw [take_get hx, partsP_snoc, hf, List.map_append, h.m]; simp⟩
  rcases h6 with e | e
  · exact h.hv b (by rw [← e]; exact hb)
  · rw [e, Option.some.injEq] at hb
    have h1 := h.hc.size
    have h2 := g.size
    omega

set_option maxRecDepth 100000 in
set_option maxHeartbeats 4000000 in
theorem specGrfParts (a : Option Addr) (n cap : Nat) (ps : List Prc) (w : World) (hr : RdP w a n ps) (hn : n ≤ 9223372036854775807) :
    Calls Tryz.prog 8 #[.agg #[.slice a n cap]] w (RetLL (grfParts ps) w) := by
  have hl := hr.len
  have C := fun W (g : Grew w W) => specPrgOk a n cap ps W (hr.grew g) hn
  have H0 := Lib.hid (show OwnLL ((w.alloc (.cells #[.slice a n cap] 25)).alloc (.cells #[] 28)) w.heap.size (.slice (some ⟨w.heap.size + 1, 0, none⟩) 0 0) [] from
    ⟨by simpa using World.ownsRow_lit (w.alloc (.cells #[.slice a n cap] 25)) (e := 28) (size := 1) #[] 0 (base := w.heap.size) (by simp) (Nat.zero_le _) rfl, fun m hm => (by cases hm), List.Pairwise.nil⟩)
  cases hB : prgOkB ps
  · rw [hB] at C
    have HC := Lib.hid C; clear C
    have HE := Lib.hid (show grfParts ps = [] from by simp [grfParts, hB])
    clear hB hr hl
    go_enter Tryz.func8, Tryz.ntmps8
    go_wp2_with fail
    refine (HC.out _ (by repeat (first | with_reducible exact Below.refl _ _ | with_reducible assumption | with_reducible apply grew_ext | with_reducible apply grew_al | with_reducible apply grew_dn | with_reducible apply grew_d | (with_reducible refine grew_set ?_ (by first | omega | (repeat (first | with_reducible exact Nat.le_refl _ | with_reducible apply le_pl | with_reducible apply le_ext | with_reducible apply le_al))) _)))).mono ?_
    rintro e w1 ⟨rfl, g1⟩
    have O1 := Lib.hid (H0.out.grew g1)
    have G1 := Lib.hid (show Grew w w1 from grew_tr (grew_al (grew_al (Below.refl _ _) _) _) g1)
    clear g1
    go_wp2
    go_ret
    rw [HE.out]
    exact ⟨_, _, [], rfl, O1.out, rfl, G1.out⟩
  · rw [hB] at C
    have HC := Lib.hid C; clear C
    have HE := Lib.hid (show grfParts ps = partsP (cOf' (csOf ps)) (csOf ps).length (reachL (cOf' (csOf ps)) (csOf ps).length 0) from by rw [grfParts, if_pos hB, ptOf, partsL, csOf_len])
    have hN : (csOf ps).length = n := by rw [csOf_len, hl]
    have hok := gok_of hB
    have hn4 := prg_len hB
    rw [hl] at hn4
    have HD := Lib.hid (fun W (g : Grew w W) => l6Reach a n cap ps 0 W (hr.grew g) hn hB (by omega))
    have HP := Lib.hid (fun (x : Int) (hx : 0 ≤ x ∧ x < n) W (g : Grew w W) => l6Part a n cap ps x W (hr.grew g) hn hB hx)
    have HH := Lib.hid (fun (x : Int) (hx : 0 ≤ x ∧ x < n) => part_head hok (a := x) (by rw [hN]; exact hx))
    have HPL := Lib.hid (fun (x : Int) (hx : 0 ≤ x ∧ x < n) => part_pl hok (a := x) (by rw [hN]; exact hx))
    have HLP := Lib.hid (reach_pl hok (a := 0) (by omega))
    rw [hN] at HPL HLP
    clear hB hr hl hok
    go_enter Tryz.func8, Tryz.ntmps8
    go_wp2_with fail
    refine (HC.out _ (by repeat (first | with_reducible exact Below.refl _ _ | with_reducible assumption | with_reducible apply grew_ext | with_reducible apply grew_al | with_reducible apply grew_dn | with_reducible apply grew_d | (with_reducible refine grew_set ?_ (by first | omega | (repeat (first | with_reducible exact Nat.le_refl _ | with_reducible apply le_pl | with_reducible apply le_ext | with_reducible apply le_al))) _)))).mono ?_
    rintro e w1 ⟨rfl, g1⟩
    have hb1 : w1.cell? ⟨w.heap.size, 0, none⟩ = some (.slice a n cap) := (g1.cell (p := ⟨w.heap.size, 0, none⟩) (by simp; omega)).trans (by simp [go_sem])
    have O1 := Lib.hid (H0.out.grew g1)
    have hG1 := show Grew w w1 from grew_tr (grew_al (grew_al (Below.refl _ _) _) _) g1
    have lb1 : w.heap.size + 1 < w1.heap.size := Nat.lt_of_lt_of_le (by simp) g1.size
    clear g1 H0
    go_wp2_with fail
    refine (HD.out _ hG1).mono ?_
    rintro e w2 ⟨A, c, rfl, o2, g2⟩
    have hb2 : w2.cell? ⟨w.heap.size, 0, none⟩ = some (.slice a n cap) := (g2.cell (p := ⟨w.heap.size, 0, none⟩) (by simp only; omega)).trans hb1
    have HB2 := Lib.hid hb2
    have O2 := Lib.hid (O1.out.grew g2)
    have G2 := Lib.hid (grew_tr hG1 g2)
    rw [hN] at o2 ⊢
    rw [hN] at HE HP HH
    obtain ⟨C0, hC0⟩ : ∃ C0, cOf' (csOf ps) = C0 := ⟨_, rfl⟩
    rw [hC0] at o2 HE HP HH HPL HLP ⊢
    obtain ⟨L, hL⟩ : ∃ L, reachL C0 n 0 = L := ⟨_, rfl⟩
    rw [hL] at o2 HE HLP ⊢
    have HRO := Lib.hid (show w2.ownsRow (w.heap.size + 1 + 1) 3 1 (.slice A L.length c) L.length (ints .i64 L) from owns_mono o2 (by omega))
    have hLl := HLP.out.len
    have hL9 : L.length ≤ 9223372036854775807 := by omega
    have lb2 : w.heap.size + 1 < w2.heap.size := Nat.lt_of_lt_of_le lb1 g2.size
    clear hL o2 g2 hG1 hb1 hb2 O1 HC HD hC0 lb1
    go_wp2
    go_loopw [3, 5] (fun v i wr => ∃ (k : Nat) (ms : List (List Int × Value)), k ≤ L.length ∧ i = .int .i64 k ∧ LS w w2 C0 n L k wr v ms) (fun _ i _ => L.length - (Go.RowKit.intOf i).toNat)
    case atStart => exact ⟨0, [], Nat.zero_le _, rfl, Chg.refl _ _, fun b hb => .inl (by simp only [Value.ownBlock, Option.some.injEq] at hb; omega), O2.out, by simp [partsP]⟩
    case round =>
      clear O2
      obtain ⟨k, ms, hk, rfl, h⟩ := hrel
      have hb0 : wr.cell? ⟨w.heap.size, 0, none⟩ = some (.slice a n cap) := (World.cell?_of_block (w := w2) (w' := wr) (a := ⟨w.heap.size, 0, none⟩) (h.hc.block w.heap.size (by omega) (by omega))).trans HB2.out
      have gw : Grew w wr := G2.out.trans ⟨h.hc.os, h.hc.tape, h.hc.output, h.hc.size, fun k hk => h.hc.block k (by omega) (by omega)⟩
      by_cases hlt : k < L.length
      · have hro := owns_chg HRO.out h.hc (fun b hb e => by have := (HRO.out.lt b hb).1; omega)
        obtain ⟨b, off, x, rfl, hx, hcell⟩ := (owns_rd hro).at1 hlt
        have hxb := HLP.out.b x (List.mem_of_getElem? hx)
        have hpl := (HPL.out x hxb).len
        have C := Lib.hid (HP.out x hxb)
        obtain ⟨hd, tl, hpe, hle, hiff⟩ := HH.out x hxb
        have hml := h.len
        obtain ⟨oa, oc, rfl⟩ := owns_slice h.o.row
        have HS := Lib.hid (fun wr' (g : Grew wr wr') (hf : firstB C0 n x = false) => h.skip hx hf g)
        have HT := Lib.hid (fun w5 w6 v6 u (g : Grew wr w5) (hf : firstB C0 n x = true) hu o6 g6 h6 => h.take (w5 := w5) (w6 := w6) (v6 := v6) (u := u) hx hf g gw.size hu o6 g6 h6)
        have HO := Lib.hid h.o
        obtain ⟨F, hF⟩ : ∃ F, firstB C0 n x = F := ⟨_, rfl⟩
        obtain ⟨X, hX⟩ : ∃ X, partL C0 n x = X := ⟨_, rfl⟩
        rw [hX] at HT C hpl hpe
        rw [hF] at HS HT hiff
        have hX0 : 0 < X.length := by rw [hpe]; simp
        have HX0 := Lib.hid (show X[0]? = some hd from by rw [hpe]; rfl)
        have HSG : Hid (∀ W, Grew wr W → W.cell? ⟨w.heap.size, 0, none⟩ = some (.slice a n cap) ∧ W.cell? ⟨b, off + k, none⟩ = some (.int .i64 x)) := Lib.hid (fun W g => ⟨(g.cell (p := ⟨w.heap.size, 0, none⟩) (World.block_lt_of_cell? wr _ hb0)).trans hb0, (g.cell (p := ⟨b, off + k, none⟩) (World.block_lt_of_cell? wr _ hcell)).trans hcell⟩)
        have HG := Lib.hid gw
        clear hF hX hro hx gw h hpe hle
        cases F
        · have hne : (hd == x) = false := by
            rw [beq_eq_false_iff_ne]
            exact fun e => by have := hiff.2 e; cases this
          clear hiff
          go_wp2_with fail
          go_region_held3 (fun W => W.cell? ⟨w.heap.size, 0, none⟩ = some (.slice a n cap) ∧ W.cell? ⟨b, off + k, none⟩ = some (.int .i64 x)) (with_reducible (first | assumption | exact HSG.out _ (grew_d (Below.refl _ _))))
            ((go_at_call 28; (with_reducible refine (C.out _ (grew_tr HG.out (grew_d (Below.refl _ _)))).mono ?_); rintro e w5 ⟨A5, c5, rfl, o5, g5⟩; have t5 := HSG.out _ (grew_tr (grew_d (Below.refl _ _)) g5); have R5 := Lib.hid o5; have G5 := Lib.hid (grew_tr (grew_d (Below.refl _ _)) g5); clear o5 g5))
          obtain ⟨b5, off5, y5, rfl, hy5, hcell5⟩ := (owns_rd R5.out).at1 hX0
          obtain rfl : y5 = hd := Option.some.inj (hy5.symm.trans HX0.out)
          rw [Nat.add_zero] at hcell5
          clear hy5
          go_wp2_with fail
          go_quiet (fail)
          have HN := Lib.hid (HS.out _ (grew_tr G5.out (grew_drewN _ nq)) trivial)
          clear t5 HSG hb0 hcell hcell5
          go_wp2
          go_roundw
          case rel => exact ⟨k + 1, ms, by omega, by go_num, HN.out⟩
          case measure => simp [Go.RowKit.intOf]; omega
        · obtain rfl : hd = x := hiff.1 rfl
          clear hiff
          go_wp2_with fail
          go_region_held3 (fun W => W.cell? ⟨w.heap.size, 0, none⟩ = some (.slice a n cap) ∧ W.cell? ⟨b, off + k, none⟩ = some (.int .i64 hd)) (with_reducible (first | assumption | exact HSG.out _ (grew_d (Below.refl _ _))))
            ((go_at_call 28; (with_reducible refine (C.out _ (grew_tr HG.out (grew_d (Below.refl _ _)))).mono ?_); rintro e w5 ⟨A5, c5, rfl, o5, g5⟩; have t5 := HSG.out _ (grew_tr (grew_d (Below.refl _ _)) g5); have R5 := Lib.hid (owns_mono o5 (show wr.heap.size ≤ _ from by simp)); have G5 := Lib.hid (grew_tr (grew_d (Below.refl _ _)) g5); clear o5 g5))
          obtain ⟨b5, off5, y5, rfl, hy5, hcell5⟩ := (owns_rd R5.out).at1 hX0
          obtain rfl : y5 = hd := Option.some.inj (hy5.symm.trans HX0.out)
          rw [Nat.add_zero] at hcell5
          clear hy5
          go_wp2_with fail
          go_quiet (fail)
          have hg6 := grew_tr G5.out (grew_drewN _ nq)
          obtain ⟨v7, w7, hr7, o7, g7, hv7⟩ := owns_append_lit (P := Tryz.prog) _ llEl (HO.out.grew hg6).row 1 [.slice (some ⟨b5, off5, none⟩) X.length c5] rfl (by simp [Value.oneCell']) (by omega) (by omega) (Nat.le_trans HG.out.size hg6.size)
          have HN := Lib.hid (HT.out _ _ _ _ hg6 trivial (owns_grew R5.out (grew_drewN _ nq)) o7 g7 hv7)
          have R7 := Lib.hid hr7
          clear t5 HSG hb0 hcell hcell5 o7 g7 hr7 hv7 hg6
          go_wp2_with (at_builtin; refine wpList_append_run rfl _ _ rfl rfl rfl rfl R7.out ?_)
          go_roundw
          case rel => exact ⟨k + 1, _, by omega, by go_num, HN.out⟩
          case measure => simp [Go.RowKit.intOf]; omega
      · obtain rfl : k = L.length := by omega
        have hm := h.m
        rw [List.take_length] at hm
        obtain ⟨oa, oc, rfl⟩ := owns_slice h.o.row
        have hlen := ll_len hm
        have HO := Lib.hid h.o
        have HG := Lib.hid gw
        have HM := Lib.hid hm
        clear h gw hb0 hm
        go_wp2
        go_ret
        rw [HE.out]
        exact ⟨oa, oc, ms, by rw [← hlen]; rfl, by rw [← hlen]; exact HO.out, HM.out, HG.out⟩
end Go.Proofs.YtnjoofpllhbccaaGreat

/- Rows of rows as results of a law: below a bound, compared, marked, held. No condition. -/
namespace Go.Proofs.YtnjoofpllhbccaaGreat
open Go.RowKit
set_option linter.unusedVariables false
set_option linter.unusedSimpArgs false

/-- Such a row whose blocks all lie below N. -/
structure OwnLN (w : World) (B N : Nat) (v : Value) (ms : List (List Int × Value)) : Prop where
  o : OwnLL w B v ms
  t : ∀ b, v.ownBlock = some b → b < N
  r : ∀ m, m ∈ ms → ∀ b, m.2.ownBlock = some b → b < N
section
variable {w w' : World} {B N : Nat} {v : Value} {ms : List (List Int × Value)}
theorem OwnLN.of (h : OwnLL w B v ms) : OwnLN w B w.heap.size v ms := ⟨h, fun b e => (h.row.lt b e).2, fun m hm b e => ((h.each m hm).lt b e).2⟩
theorem OwnLN.chg {F : Nat → Prop} (h : OwnLN w B N v ms) (c : Chg F w w') (hF : ∀ b, B ≤ b → b < N → ¬ F b) : OwnLN w' B N v ms :=
  ⟨⟨owns_chg h.o.row c (fun b hb => hF b (h.o.row.lt b hb).1 (h.t b hb)), fun m hm => owns_chg (h.o.each m hm) c (fun b hb => hF b ((h.o.each m hm).lt b hb).1 (h.r m hm b hb)), h.o.apart⟩, h.t, h.r⟩
theorem OwnLN.grew (h : OwnLN w B N v ms) (g : Grew w w') : OwnLN w' B N v ms := h.chg (Chg.of_below (F := fun _ => False) g) (fun _ _ _ e => e)
theorem OwnLN.rd {a : Option Addr} {c : Nat} {S : List (List Int)} (h : OwnLN w B N (.slice a S.length c) ms) (hm : ms.map (·.1) = S) : RdLL w a S.length S := by
  have := h.o.rd (ll_len hm)
  rwa [hm] at this
theorem ll_bd {S : List (List Int)} (hm : ms.map (·.1) = S) (hb : ∀ l, l ∈ S → l.length ≤ 4) : ∀ m, m ∈ ms → m.1.length ≤ 1000 := fun m h => by
  have := hb m.1 (by rw [← hm]; exact List.mem_map_of_mem h)
  omega
end
theorem rdLL_grew {w w' : World} {a : Option Addr} {n : Nat} {S : List (List Int)} (h : RdLL w a n S) (g : Grew w w') : RdLL w' a n S := RdL.grew stays_ints h g
theorem grfParts_bd (ps : List Prc) : (grfParts ps).length ≤ 4 ∧ ∀ l, l ∈ grfParts ps → l.length ≤ 4 := by
  cases hB : prgOkB ps
  · simp [grfParts, hB]
  · rw [grfParts, if_pos hB]
    exact ptOf_bd hB
end Go.Proofs.YtnjoofpllhbccaaGreat

/- What a part needs: GrfNeeds on both sides. No condition. -/
namespace Go.Proofs.YtnjoofpllhbccaaGreat
open Go.RowKit
set_option linter.unusedVariables false
set_option linter.unusedSimpArgs false
attribute [local go_sem] ext_cell ext_frozen ext_lt ext_le ext_le1 lt_s2 lt_s3 lt_s4 lt_s5 lt_s6 ext_lt1 ext_lt2 ext_lt3

/-- GrfNeeds. -/
def grfNeeds (ps : List Prc) (k : Int) : List Int := if 0 ≤ k ∧ k < ((grfParts ps).length : Int) then needsI (cOf' (csOf ps)) (grfParts ps) k.toNat else []
theorem grfNeeds_no {ps : List Prc} {k : Int} (h : ¬ (0 ≤ k ∧ k < ((grfParts ps).length : Int))) : grfNeeds ps k = [] := by
  unfold grfNeeds
  rw [if_neg h]
theorem grfNeeds_yes {ps : List Prc} {k : Nat} (h : k < (grfParts ps).length) : grfNeeds ps k = needsI (cOf' (csOf ps)) (grfParts ps) k := by
  unfold grfNeeds
  rw [if_pos (by omega)]
  rfl
theorem parts_ok {ps : List Prc} (h : 0 < (grfParts ps).length) : prgOkB ps = true ∧ grfParts ps = partsL (cOf' (csOf ps)) (csOf ps).length := by
  cases hB : prgOkB ps
  · rw [grfParts, hB] at h
    simp at h
  · exact ⟨rfl, by rw [grfParts, if_pos hB, ptOf, csOf_len]⟩
theorem parts_in {ps : List Prc} (hB : prgOkB ps = true) : ∀ q, q ∈ ptOf ps → ∀ x, x ∈ q → 0 ≤ x ∧ x < (csOf ps).length := by
  intro q hq x hx
  have hok := gok_of hB
  have h4 := prg_len hB
  have hn : 0 < (csOf ps).length := by rw [csOf_len]; omega
  obtain ⟨k, hk, rfl⟩ := List.mem_iff_getElem.1 hq
  have hx0 : x ∈ (ptOf ps).getD k [] := by rw [List.getD_eq_getElem?_getD, List.getElem?_eq_getElem hk]; exact hx
  have hk' : k < (partsL (cOf' (csOf ps)) (csOf ps).length).length := by rw [csOf_len]; exact hk
  have hx' : x ∈ (partsL (cOf' (csOf ps)) (csOf ps).length).getD k [] := by rw [csOf_len]; exact hx0
  have h1 := ((parts_mem hok hn hk' x).1 hx').1
  exact rch_bd hok (heads_rch hok hn (heads_get hk')).2.1 h1
theorem grfNeeds_len (ps : List Prc) (k : Int) : (grfNeeds ps k).length ≤ 10 := by
  unfold grfNeeds
  split
  · have h1 := needsN_len (cOf' (csOf ps)) (grfParts ps) k.toNat (grfParts ps).length
    have h2 := (grfParts_bd ps).1
    have h3 : needsI (cOf' (csOf ps)) (grfParts ps) k.toNat = needsN (cOf' (csOf ps)) (grfParts ps) k.toNat (grfParts ps).length := rfl
    rw [h3]
    omega
  · simp

set_option maxHeartbeats 2000000 in
theorem specGrfNeeds (a : Option Addr) (n cap : Nat) (ps : List Prc) (k : Int) (w : World) (hr : RdP w a n ps) (hn : n ≤ 9223372036854775807) :
    Calls Tryz.prog 10 #[.agg #[.slice a n cap], .int .i64 k] w (RetIs (grfNeeds ps k) w) := by
  have hl := hr.len
  have HC := Lib.hid (fun W (g : Grew w W) => specGrfParts a n cap ps W (hr.grew g) hn)
  have h4 := (grfParts_bd ps).1
  by_cases hp : 0 ≤ k ∧ k < ((grfParts ps).length : Int)
  · obtain ⟨m, rfl⟩ := Int.eq_ofNat_of_zero_le hp.1
    have hm : m < (grfParts ps).length := by omega
    have hB := (parts_ok (by omega : 0 < (grfParts ps).length)).1
    have hpe := (parts_ok (by omega : 0 < (grfParts ps).length)).2
    have hok := gok_of hB
    have hn0 : 0 < (csOf ps).length := by rw [csOf_len]; have := prg_len hB; omega
    have HE := Lib.hid (show grfNeeds ps (m : Int) = needsS (cOf' (csOf ps)) (grfParts ps) m from by
      rw [grfNeeds_yes hm, hpe]
      exact (needs_eq hok hn0 (by rw [← hpe]; exact hm)).symm)
    have HN := Lib.hid (fun pa pc W (g : Grew w W) (hpr : RdLL W pa (grfParts ps).length (grfParts ps)) => l6Needs a n cap ps pa (grfParts ps).length pc (grfParts ps) m W (hr.grew g) hn hB hpr hm h4 (grfParts_bd ps).2 (by
      have h := parts_in hB
      rw [csOf_len, hl] at h
      rw [grfParts, if_pos hB]
      exact h))
    obtain ⟨S, hS⟩ : ∃ S, grfParts ps = S := ⟨_, rfl⟩
    rw [hS] at HE HN HC hm h4 hp
    clear hr hl hB hpe hok hn0 hS hp
    go_enter Tryz.func10, Tryz.ntmps10
    go_wp2_with fail
    refine (HC.out _ (by repeat (first | with_reducible exact Below.refl _ _ | with_reducible assumption | with_reducible apply grew_ext | with_reducible apply grew_al | with_reducible apply grew_dn | with_reducible apply grew_d | (with_reducible refine grew_set ?_ (by first | omega | (repeat (first | with_reducible exact Nat.le_refl _ | with_reducible apply le_pl | with_reducible apply le_ext | with_reducible apply le_al))) _)))).mono ?_
    rintro e w1 ⟨pa, pc, ms, rfl, o1, hms, g1⟩
    have hb1 : w1.cell? ⟨w.heap.size, 0, none⟩ = some (.slice a n cap) := (g1.cell (p := ⟨w.heap.size, 0, none⟩) (by simp)).trans (by simp [go_sem])
    have HRd := Lib.hid ((OwnLN.of o1).rd hms)
    have hG : Grew w w1 := grew_tr (by repeat (first | with_reducible exact Below.refl _ _ | with_reducible assumption | with_reducible apply grew_ext | with_reducible apply grew_al | with_reducible apply grew_dn | with_reducible apply grew_d | (with_reducible refine grew_set ?_ (by first | omega | (repeat (first | with_reducible exact Nat.le_refl _ | with_reducible apply le_pl | with_reducible apply le_ext | with_reducible apply le_al))) _))) g1
    have HG := Lib.hid hG
    clear o1 hms g1 hG
    go_wp2_with fail
    refine (HN.out pa pc _ HG.out HRd.out).mono ?_
    rintro e w2 ⟨A, c, rfl, o2, g2⟩
    have O2 := Lib.hid (owns_mono o2 HG.out.size)
    have G2 := Lib.hid (grew_tr HG.out g2)
    clear o2 g2 hb1
    go_wp2
    go_ret
    rw [HE.out]
    exact ⟨A, c, rfl, O2.out, G2.out⟩
  · have HE := Lib.hid (grfNeeds_no hp)
    obtain ⟨S, hS⟩ : ∃ S, grfParts ps = S := ⟨_, rfl⟩
    rw [hS] at HC h4 hp
    clear hr hl hS
    by_cases h0 : 0 ≤ k
    · have h1 : ¬ k < (S.length : Int) := fun h => hp ⟨h0, h⟩
      have b1 : decide (k < 0) = false := by simp; omega
      have b2 : decide ((S.length : Int) ≤ k) = true := by simp; omega
      clear hp
      go_enter Tryz.func10, Tryz.ntmps10
      go_wp2_with fail
      refine (HC.out _ (by repeat (first | with_reducible exact Below.refl _ _ | with_reducible assumption | with_reducible apply grew_ext | with_reducible apply grew_al | with_reducible apply grew_dn | with_reducible apply grew_d | (with_reducible refine grew_set ?_ (by first | omega | (repeat (first | with_reducible exact Nat.le_refl _ | with_reducible apply le_pl | with_reducible apply le_ext | with_reducible apply le_al))) _)))).mono ?_
      rintro e w1 ⟨pa, pc, ms, rfl, o1, hms, g1⟩
      have HG := Lib.hid (show Grew w w1 from grew_tr (by repeat (first | with_reducible exact Below.refl _ _ | with_reducible assumption | with_reducible apply grew_ext | with_reducible apply grew_al | with_reducible apply grew_dn | with_reducible apply grew_d | (with_reducible refine grew_set ?_ (by first | omega | (repeat (first | with_reducible exact Nat.le_refl _ | with_reducible apply le_pl | with_reducible apply le_ext | with_reducible apply le_al))) _))) g1)
      clear o1 hms g1
      go_wp2
      go_ret
      rw [HE.out]
      exact retIs_lit _ (by simp) HG.out
    · have b1 : k < 0 := by omega
      clear hp
      go_enter Tryz.func10, Tryz.ntmps10
      go_wp2_with fail
      refine (HC.out _ (by repeat (first | with_reducible exact Below.refl _ _ | with_reducible assumption | with_reducible apply grew_ext | with_reducible apply grew_al | with_reducible apply grew_dn | with_reducible apply grew_d | (with_reducible refine grew_set ?_ (by first | omega | (repeat (first | with_reducible exact Nat.le_refl _ | with_reducible apply le_pl | with_reducible apply le_ext | with_reducible apply le_al))) _)))).mono ?_
      rintro e w1 ⟨pa, pc, ms, rfl, o1, hms, g1⟩
      have HG := Lib.hid (show Grew w w1 from grew_tr (by repeat (first | with_reducible exact Below.refl _ _ | with_reducible assumption | with_reducible apply grew_ext | with_reducible apply grew_al | with_reducible apply grew_dn | with_reducible apply grew_d | (with_reducible refine grew_set ?_ (by first | omega | (repeat (first | with_reducible exact Nat.le_refl _ | with_reducible apply le_pl | with_reducible apply le_ext | with_reducible apply le_al))) _))) g1)
      clear o1 hms g1
      go_wp2
      go_ret
      rw [HE.out]
      exact retIs_lit _ (by simp) HG.out

set_option maxHeartbeats 2000000 in
theorem implGrfNeeds (a : Option Addr) (n cap : Nat) (ps : List Prc) (k : Int) (w : World) (hr : RdP w a n ps) (hn : n ≤ 9223372036854775807) :
    Calls Tryz.prog 7 #[.agg #[.slice a n cap], .int .i64 k] w (RetIs (grfNeeds ps k) w) := by
  have hl := hr.len
  cases hB : prgOkB ps
  · have HC := Lib.hid (fun W (g : Grew w W) => readGraphNo a n cap ps W (hr.grew g) hn hB)
    have HE := Lib.hid (show grfNeeds ps k = [] from grfNeeds_no (by rw [grfParts, if_neg (by simp [hB])]; simp <;> omega))
    clear hB hr hl
    go_enter Tryz.func7, Tryz.ntmps7
    go_wp2_with fail
    refine (HC.out _ (by repeat (first | with_reducible exact Below.refl _ _ | with_reducible assumption | with_reducible apply grew_ext | with_reducible apply grew_al | with_reducible apply grew_dn | with_reducible apply grew_d | (with_reducible refine grew_set ?_ (by first | omega | (repeat (first | with_reducible exact Nat.le_refl _ | with_reducible apply le_pl | with_reducible apply le_ext | with_reducible apply le_al))) _)))).mono ?_
    rintro e w1 ⟨rfl, g1⟩
    go_wp2
    go_ret
    rw [HE.out]
    exact retIs_nil (grew_tr (by repeat (first | with_reducible exact Below.refl _ _ | with_reducible assumption | with_reducible apply grew_ext | with_reducible apply grew_al | with_reducible apply grew_dn | with_reducible apply grew_d | (with_reducible refine grew_set ?_ (by first | omega | (repeat (first | with_reducible exact Nat.le_refl _ | with_reducible apply le_pl | with_reducible apply le_ext | with_reducible apply le_al))) _))) g1)
  · have HC := Lib.hid (fun W (g : Grew w W) => readGraphYes a n cap ps W (hr.grew g) hn hB)
    have hpt : grfParts ps = ptOf ps := by rw [grfParts, if_pos hB]
    have hbd := grfParts_bd ps
    rw [hpt] at hbd
    by_cases hp : 0 ≤ k ∧ k < ((ptOf ps).length : Int)
    · obtain ⟨m, rfl⟩ := Int.eq_ofNat_of_zero_le hp.1
      have hm : m < (ptOf ps).length := by omega
      have HE := Lib.hid (show grfNeeds ps (m : Int) = needsI (cOf' (csOf ps)) (ptOf ps) m from by rw [grfNeeds_yes (by rw [hpt]; exact hm), hpt])
      have HN := Lib.hid (fun gb W (h : GrR W gb (csOf ps) (ptOf ps)) => implNeeds gb m (csOf ps) (ptOf ps) W h hm hbd.1 hbd.2 (parts_in hB) (by rw [csOf_len]; exact (prg_len hB).2) (fun l hl => by
        obtain ⟨j, hj, rfl⟩ := List.mem_iff_getElem.1 hl
        have := cs_len hB (j : Int)
        simpa [cOf', hj] using this))
      have h900 : (ptOf ps).length ≤ 900 := by omega
      obtain ⟨S, hS⟩ : ∃ S, ptOf ps = S := ⟨_, rfl⟩
      rw [hS] at HE HN HC hm hp h900
      clear hr hl hB hpt hbd hS
      go_enter Tryz.func7, Tryz.ntmps7
      go_wp2_with fail
      refine (HC.out _ (by repeat (first | with_reducible exact Below.refl _ _ | with_reducible assumption | with_reducible apply grew_ext | with_reducible apply grew_al | with_reducible apply grew_dn | with_reducible apply grew_d | (with_reducible refine grew_set ?_ (by first | omega | (repeat (first | with_reducible exact Nat.le_refl _ | with_reducible apply le_pl | with_reducible apply le_ext | with_reducible apply le_al))) _)))).mono ?_
      rintro e w1 ⟨gb, rfl, hg, g1⟩
      have hrd := hg.rd
      obtain ⟨pa, pc, q2, -⟩ := hrd.p
      have HR := Lib.hid hrd
      have HG1 := Lib.hid (grew_tr (show Grew w (w.alloc (.cells #[.slice a n cap] 25)) from grew_al (Below.refl _ _) _) g1)
      have hD := fun W => below (m : Int) S.length W
      rw [decide_eq_true (by omega), decide_eq_true (by omega)] at hD
      have HD := Lib.hid hD
      clear hg g1 hD hrd hp
      go_wp2_with ((with_reducible refine (HD.out _).mono ?_); rintro e w' ⟨rfl, rfl⟩)
      refine (HN.out gb _ HR.out).mono ?_
      rintro e w2 ⟨A2, c2, rfl, o2, g2⟩
      have O2 := Lib.hid (owns_mono o2 HG1.out.size)
      have G2 := Lib.hid (grew_tr HG1.out g2)
      clear o2 g2
      go_wp2
      go_ret
      rw [HE.out]
      exact ⟨A2, c2, rfl, O2.out, G2.out⟩
    · have HE := Lib.hid (show grfNeeds ps k = [] from grfNeeds_no (by rw [hpt]; exact hp))
      have h900 : (ptOf ps).length ≤ 900 := by omega
      obtain ⟨S, hS⟩ : ∃ S, ptOf ps = S := ⟨_, rfl⟩
      rw [hS] at HC hp h900
      have hD := fun W => below k S.length W
      have hz : (decide (0 ≤ k) && decide (k < (S.length : Int))) = false := by simp; omega
      rw [hz] at hD
      have HD := Lib.hid hD
      clear hr hl hB hp hD hz hpt hbd hS
      go_enter Tryz.func7, Tryz.ntmps7
      go_wp2_with fail
      refine (HC.out _ (by repeat (first | with_reducible exact Below.refl _ _ | with_reducible assumption | with_reducible apply grew_ext | with_reducible apply grew_al | with_reducible apply grew_dn | with_reducible apply grew_d | (with_reducible refine grew_set ?_ (by first | omega | (repeat (first | with_reducible exact Nat.le_refl _ | with_reducible apply le_pl | with_reducible apply le_ext | with_reducible apply le_al))) _)))).mono ?_
      rintro e w1 ⟨gb, rfl, hg, g1⟩
      obtain ⟨pa, pc, q2, -⟩ := hg.rd.p
      have HG1 := Lib.hid (grew_tr (show Grew w (w.alloc (.cells #[.slice a n cap] 25)) from grew_al (Below.refl _ _) _) g1)
      clear hg g1
      go_wp2_with ((with_reducible refine (HD.out _).mono ?_); rintro e w' ⟨rfl, rfl⟩)
      go_ret
      rw [HE.out]
      exact retIs_nil HG1.out
end Go.Proofs.YtnjoofpllhbccaaGreat
