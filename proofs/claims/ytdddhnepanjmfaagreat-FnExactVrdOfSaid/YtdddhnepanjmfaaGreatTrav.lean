/- The program's search through its call graph, as an iterator: what it gives is what can be come to. No condition. -/
import Derived.Test.YtdddhnepanjmfaaGreatSetB
import Derived.Test.YtdddhnepanjmfaaGreatGm
import Derived.Test.YtdddhnepanjmfaaGreatSt
import Derived.RangeFuncNested
import Derived.RangeFuncBound
import Derived.RangeFuncCalls
import Derived.RangeFuncLeaves
import Derived.Shelf.Abstract
import Derived.Shelf.RegionOpen
import Derived.OwnWalkIn
import Derived.TacticsInMore
import Derived.LoopNIn
import Derived.LoopIn
import Derived.Sort.LoopGhostIn
namespace Go.Proofs.YtdddhnepanjmfaaGreat
open Go.RowKit Go.Shelf Go.Maps
set_option linter.unusedVariables false
set_option linter.unusedSimpArgs false
attribute [local go_sem] Oper.semAt_some

/-- A row of numbers, as the cells of an element. -/
def EInts : World → List Value → List Int → Prop := fun w cs l => ∃ a c, cs = [.slice a l.length c] ∧ Rd w a l.length 1 (ints .i64 l) ∧ l.length ≤ c ∧ c ≤ maxLen
theorem stays_ints : Stays EInts := fun w w' cs l hg ⟨a, c, h1, h2, h3⟩ => ⟨a, c, h1, h2.grew hg, h3⟩
/-- Rows of numbers. -/
abbrev RdLL (w : World) (a : Option Addr) (n : Nat) (ls : List (List Int)) : Prop := RdL EInts 1 w a n ls
theorem rdLL_at {w : World} {a : Option Addr} {n : Nat} {ls : List (List Int)} (h : RdLL w a n ls) {k : Nat} (hk : k < n) : ∃ b off l la lc, a = some ⟨b, off, none⟩ ∧ ls[k]? = some l ∧ w.cell? ⟨b, off + k, none⟩ = some (.slice la l.length lc) ∧ Rd w la l.length 1 (ints .i64 l) ∧ l.length ≤ lc ∧ lc ≤ maxLen := by
  obtain ⟨b, off, l, cs, rfl, h1, h2, h3, la, lc, rfl, h4, h5⟩ := h.at_ hk
  exact ⟨b, off, l, la, lc, rfl, h1, by have := h3 0 _ rfl; simpa using this, h4, h5⟩
def cOf' (cs : List (List Int)) (k : Int) : List Int := cs.getD k.toNat []
/-- The calls of a graph are procedures of it. -/
def Gok (cs : List (List Int)) : Prop := ∀ k x, x ∈ cOf' cs k → 0 ≤ x ∧ x < cs.length

abbrev mapK : TypeId := 3
abbrev mapE : TypeId := 4
/-- What stands while the graph is searched. -/
structure Trv (c : Int → List Int) (a : Int) (J : List Int → World → Prop) (T : World → Nat → Prop) (B m : Nat) (pre st sn rem : List Int) (v : Value) (wr : World) : Prop where
  d : Dfs c a pre st sn rem
  j : J pre wr
  s : SetB Tryz.prog mapK mapE wr m sn
  sm : ¬ T wr m
  o : wr.ownsRow B 3 1 v st.length (ints .i64 st)
  ot : ∀ b, v.ownBlock = some b → ¬ T wr b
  sz : sn.length ≤ pre.length + st.length
section
variable {c : Int → List Int} {a : Int} {J : List Int → World → Prop} {T : World → Nat → Prop} {w0 wr W : World} {B m : Nat} {pre st sn rem : List Int} {v : Value} {x y : Int}
theorem map_ne_row {ks : List Int} {n : Nat} {xs : List Value} (h : SetB Tryz.prog mapK mapE wr m ks) (ho : wr.ownsRow B 3 1 v n xs) : v.ownBlock ≠ some m := by
  obtain ⟨n', D, ⟨es, clock, hb, _⟩, _⟩ := h
  intro e
  rcases ho.2 with ⟨rfl, _⟩ | ⟨g, cap, cur, rfl, h1, h2, _⟩
  · cases e
  · simp only [Value.ownBlock, Option.some.injEq] at e
    subst e
    rw [hb] at h2
    cases h2
theorem owns_less {n cap : Nat} {A : Option Addr} {xs : List Int} {z : Int} (h : wr.ownsRow B 3 1 (.slice A (xs.length + 1) cap) (xs.length + 1) (ints .i64 (xs ++ [z]))) : wr.ownsRow B 3 1 (.slice A xs.length cap) xs.length (ints .i64 xs) := by
  refine ⟨by simp [ints], .inr ?_⟩
  rcases h.2 with ⟨hv, h0⟩ | ⟨g, cap', cur, hv, h1, h2, h3, h4, h5, h6⟩
  · simp at h0
  · simp only [Value.slice.injEq] at hv
    obtain ⟨rfl, _, rfl⟩ := hv
    refine ⟨g, cap, cur, rfl, h1, h2, by omega, h4, h5, ?_⟩
    have := congrArg (List.take (xs.length * 1)) h6
    rw [List.take_take, Nat.min_eq_left (by omega)] at this
    rw [this, ints_append, List.take_append_of_le_length (by simp [ints]), List.take_of_length_le (by simp [ints])]
/-- The last one is taken off and given. -/
theorem Trv.yielded {A : Option Addr} {cap : Nat} (hT : ∀ pre W1, J pre W1 → Below w0.heap.size w0 W1 ∧ ∀ b, T W1 b → w0.heap.size ≤ b ∧ b < W1.heap.size)
    (h : Trv c a J T B m pre (st ++ [x]) sn [] (.slice A (st.length + 1) cap) wr) (hj : J (pre ++ [x]) W) (hc : Chg (T wr) wr W) (ht : ∀ b, T W b → T wr b ∨ wr.heap.size ≤ b) : Trv c a J T B m (pre ++ [x]) st sn (c x) (.slice A st.length cap) W := by
  have ho : wr.ownsRow B 3 1 (.slice A st.length cap) st.length (ints .i64 st) := owns_less (z := x) (n := 0) (by have := h.o; rwa [List.length_append] at this)
  have hov : (Value.slice A st.length cap).ownBlock = (Value.slice A (st.length + 1) cap).ownBlock := by cases A <;> rfl
  refine ⟨h.d.pop, hj, h.s.chg hc h.sm, fun e => ?_, owns_chg ho hc (fun b hb e => h.ot b (by rw [← hov]; exact hb) e), fun b hb e => ?_, by have := h.sz; simp at this ⊢; omega⟩
  · rcases ht m e with e | e
    · exact h.sm e
    · have := h.s.lt
      omega
  · rcases ht b e with e | e
    · exact h.ot b (by rw [← hov]; exact hb) e
    · have := (ho.lt b hb).2
      omega
theorem Trv.skip (h : Trv c a J T B m pre st sn (y :: rem) v wr) (hy : y ∈ sn) : Trv c a J T B m pre st sn rem v wr :=
  ⟨h.d.seen hy, h.j, h.s, h.sm, h.o, h.ot, h.sz⟩
/-- A new one is marked and put behind. -/
theorem Trv.push (hT : ∀ pre W1, J pre W1 → Below w0.heap.size w0 W1 ∧ ∀ b, T W1 b → w0.heap.size ≤ b ∧ b < W1.heap.size)
    (hJ : ∀ pre W1 W2, J pre W1 → Chg (fun b => w0.heap.size ≤ b ∧ ¬ T W1 b) W1 W2 → J pre W2 ∧ ∀ b, T W2 b → T W1 b)
    (hB : w0.heap.size ≤ B) (hm : w0.heap.size ≤ m)
    (h : Trv c a J T B m pre st sn (y :: rem) v wr) (hy : ¬ y ∈ sn) {w2 w3 : World} {v3 : Value} (s2 : SetB Tryz.prog mapK mapE w2 m (y :: sn)) (g2 : wr.grownBy w2 (some m))
    (o3 : w3.ownsRow B 3 1 v3 (st.length + 1) (ints .i64 st ++ [.int .i64 y])) (g3 : w2.grownBy w3 v.ownBlock) (hv : v3.ownBlock = v.ownBlock ∨ v3.ownBlock = some (w2.heap.size + 1)) : Trv c a J T B m pre (st ++ [y]) (y :: sn) rem v3 w3 := by
  have hmv := map_ne_row h.s h.o
  have hvlt := fun b hb => h.o.lt b hb
  have hmlt := h.s.lt
  have c3 : Chg (fun b => b = m ∨ v.ownBlock = some b) wr w3 := Chg.trans (Chg.of_grownBy g2) (Chg.of_grownBy g3) (fun i _ e => .inl (Option.some.inj e).symm) (fun i _ e => .inr e)
  obtain ⟨j3, t3⟩ := hJ pre wr w3 h.j ⟨c3.os, c3.tape, c3.output, c3.size, fun k hk hn => c3.block k hk (fun e => hn (by
    rcases e with rfl | e
    · exact ⟨hm, h.sm⟩
    · exact ⟨Nat.le_trans hB (hvlt k e).1, h.ot k e⟩))⟩
  have g3c := Chg.of_grownBy g3
  refine ⟨h.d.push hy, j3, s2.chg g3c (fun e => hmv e), fun e => h.sm (t3 m e), by rw [ints_append, List.length_append]; exact o3, fun b hb e => ?_, by have := h.sz; simp; omega⟩
  rcases hv with hv | hv
  · exact h.ot b (by rw [← hv]; exact hb) (t3 b e)
  · rw [hv, Option.some.injEq] at hb
    have h1 := ((hT pre wr h.j).2 b (t3 b e)).2
    have := g2.size
    omega
theorem Trv.start {w1 : World} (hj : J [] w1) (hs : SetB Tryz.prog mapK mapE w1 m [a]) (hm : ¬ T w1 m) (ho : w1.ownsRow B 3 1 v 1 (ints .i64 [a])) (ht : ∀ b, v.ownBlock = some b → ¬ T w1 b) : Trv c a J T B m [] [a] [a] [] v w1 :=
  ⟨Dfs.start c a, hj, hs, hm, ho, ht, by simp⟩
end

theorem wpListIn_append_run {F : Fence} {nF : Nat} {P : Program} {ops : Array Oper} {rest : List Oper} {o : Oper} {a : Act} {w w' : World} {Q : Exit → Act → World → Prop} {v y v' : Value} {t : TypeId} (hgd : o.guard = none) (s x : Operand)
    (ho : o.op = .call { callee := .builtin .append, args := #[s, x], argTypes := #[t, t] }) (hty : o.type = t) (hs : a.eval s = v) (hx : a.eval x = y)
    (hrun : (Builtin.append_ #[t, t] t #[v, y]).run P w = .ok v' w') (h : wpListIn F nF P ops Q rest (a.put o.dst v') w') : wpListIn F nF P ops Q (o :: rest) a w := by
  refine wpListIn_plain hgd fun K hK => ?_
  unfold Oper.wpIn
  refine ⟨by simp [Oper.about, ho, resolve, Target.leads, Sem.run_pure], ?_⟩
  rw [Oper.semAt_plain F _ _ (by rw [ho]; intro c hc'; cases hc')]
  simp [execOp, ho, hty, resolve, invoke, builtin, hs, hx, hrun, Result.andThen]
  exact hK _ _ h
theorem cOf_get {cs : List (List Int)} {k : Nat} {l : List Int} (h : cs[k]? = some l) : cOf' cs (k : Int) = l := by simp [cOf', h]
theorem mapT : Tryz.prog.underlying 112 = some (.map mapK mapE) := Tryz.underlying112

set_option maxRecDepth 100000 in
set_option maxHeartbeats 4000000 in
theorem trav_own (n : Nat) (hn1 : 1 ≤ n) (bp bg gb : Nat) (a : Int) (cs : List (List Int)) (ca : Option Addr) (cc : Nat) (w : World) (hbp : w.cell? ⟨bp, 0, none⟩ = some (.int .i64 a)) (hbg : w.cell? ⟨bg, 0, none⟩ = some (.pointer (some ⟨gb, 0, none⟩)))
    (hg1 : w.cell? ⟨gb, 1, none⟩ = some (.slice ca cs.length cc)) (hr : RdLL w ca cs.length cs) (hG : Gok cs) (ha : 0 ≤ a ∧ a < cs.length) (hn : cs.length ≤ 900) :
    SeqOwn Fence.wide n Tryz.prog 125 #[.pointer (some ⟨bp, 0, none⟩), .pointer (some ⟨bg, 0, none⟩)] (fun ss => ss.Nodup ∧ ∀ x, x ∈ ss ↔ Rch (cOf' cs) a x) cs.length w := by
  intro l J T W hW hT hJ hY h0
  have HR := Lib.hid hr; clear hr
  have HG := Lib.hid hG; clear hG
  have HT := Lib.hid hT; clear hT
  have HJ := Lib.hid hJ; clear hJ
  have HY := Lib.hid hY; clear hY
  have lp := World.block_lt_of_cell? w _ hbp
  have lg := World.block_lt_of_cell? w _ hbg
  have lb := World.block_lt_of_cell? w _ hg1
  simp only at lp lg lb
  have wfa : (Lit.int .i64 a).wf = true := wf_small (by omega)
  obtain ⟨W2, hrun2, hs2, hg2⟩ := (SetB.made Tryz.prog mapK mapE W).put (t := 112) Tryz.underlying3 mapT Tryz.underlying4 wfa (by simp)
  have hW2 : Below w.heap.size w W2 := (hW.alloc hW.size _).grown hg2 (by have := hW.size; simp; omega) (fun k e => by cases e; exact hW.size)
  have hgw : W.grownBy W2 none := ⟨hg2.os, hg2.tape, hg2.output, Nat.le_trans (by simp) hg2.size, fun k hk _ => (hg2.block k (by simp; omega) (fun e => by cases e; omega)).trans (Below.heap_alloc W _ k hk)⟩
  have p0 : W.cell? ⟨bp, 0, none⟩ = some (.int .i64 a) := (hW.cell (p := ⟨bp, 0, none⟩) lp).trans hbp
  have p2 : W2.cell? ⟨bp, 0, none⟩ = some (.int .i64 a) := (hW2.cell (p := ⟨bp, 0, none⟩) lp).trans hbp
  have pl : bp < W.heap.size := Nat.lt_of_lt_of_le lp hW.size
  have hj1 : J [] (W2.alloc (.cells #[.int .i64 a] 3)) ∧ ∀ b, T (W2.alloc (.cells #[.int .i64 a] 3)) b → T W b :=
    HJ.out [] W _ h0 (Chg.trans (Chg.of_grownBy hgw) (Chg.of_below (F := fun _ => False) (grew_al (Below.refl _ _) _)) (fun _ _ e => by cases e) (fun _ _ e => e.elim))
  have hTl := (HT.out [] W h0).2
  have HV : Hid (Trv (cOf' cs) a J T w.heap.size W.heap.size [] [a] [a] [] (.slice (some ⟨W2.heap.size, 0, none⟩) 1 1) (W2.alloc (.cells #[.int .i64 a] 3))) := Lib.hid (by
    refine Trv.start hj1.1 (hs2.grew (grew_al (Below.refl _ _) _)) (fun e => by have := (hTl _ (hj1.2 _ e)).2; omega) (World.ownsRow_lit W2 #[.int .i64 a] 1 hW2.size (by unfold maxLen; omega) rfl) (fun b hb e => ?_)
    simp only [Value.ownBlock, Option.some.injEq] at hb
    subst hb
    have := (hTl _ (hj1.2 _ e)).2
    have := hgw.size
    omega)
  have HW := Lib.hid hW
  have R2 := Lib.hid hrun2
  clear hs2 hg2 hgw hj1 hTl h0 hW hW2 hrun2
  have hmm := @run_makeMap Tryz.prog
  have hrun2 := R2.out
  refine callsIn_of_wp Tryz.func125 rfl trivial ?_ rfl
  simp only [Tryz.ntmps125, List.size_toArray, List.length_cons, List.length_nil, Nat.reduceAdd, Nat.reduceSub, Array.replicate_succ, Array.replicate_zero, List.push_toArray, List.append_toArray, List.nil_append, List.cons_append]
  gi_wp2
  clear p0 p2 hmm hrun2 R2 pl
  gi_loopg [5] cs.length (fun k v wr => ∃ pre st sn, Trv (cOf' cs) a J T w.heap.size W.heap.size pre st sn [] v wr ∧ cs.length - pre.length ≤ k)
  case atStart => exact ⟨[], [a], [a], HV.out, by simp⟩
  case round =>
    clear HV
    obtain ⟨pre, st, sn, ht, hk⟩ := hrel
    have hTv := HT.out pre wr ht.j
    have hlen := ht.d.len HG.out ha
    have hbd := fun x hx => ht.d.bd HG.out ha (x := x) hx
    rcases List.eq_nil_or_concat st with rfl | ⟨st0, x, rfl⟩
    · obtain ⟨A, cap, rfl⟩ := owns_slice ht.o
      have HD := Lib.hid ht.d.done
      have HJ1 := Lib.hid ht.j
      clear ht hTv hlen hk hbd
      gi_wp2
      go_end0
      exact ⟨⟨_, rfl⟩, pre, HD.out, HJ1.out⟩
    · rw [List.concat_eq_append] at ht hlen hbd
      obtain ⟨A, cap, rfl⟩ := owns_slice ht.o
      have hxb := hbd x (.inr (.inl (by simp)))
      clear hbd
      obtain ⟨kx, rfl⟩ := Int.eq_ofNat_of_zero_le hxb.1
      have hkx : kx < cs.length := by omega
      obtain ⟨g, hA⟩ : ∃ g, A = some ⟨g, 0, none⟩ := by
        rcases ht.o.2 with ⟨hv, h0⟩ | ⟨g, cap', cur, hv, _⟩
        · simp at h0
        · simp only [Value.slice.injEq] at hv
          exact ⟨g, hv.1⟩
      subst hA
      have hcap := (owns_cap ht.o).1
      have hcapm := (owns_cap ht.o).2
      have hcx : wr.cell? ⟨g, st0.length, none⟩ = some (.int .i64 kx) := by
        have := ht.o.cellAt st0.length (by simp)
        rw [this, ints_append, List.getElem?_append_right (by simp [ints])]
        simp [ints]
      simp only [List.length_append, List.length_cons, List.length_nil, Nat.zero_add] at ht hlen hcap
      obtain ⟨fn, tmps, assign, body, hy, hR⟩ := HY.out pre kx wr ht.j (by omega)
      dsimp only [encZ] at hy
      have hq : st0.length ≤ 900 := by omega
      obtain ⟨rb, roff, row, ra, rc, hca, hrow, hrcell, hrd, hrl, hrm⟩ := rdLL_at HR.out hkx
      subst hca
      have lrb := World.block_lt_of_cell? w _ hrcell
      simp only at lrb
      have HX := Lib.hid (cOf_get hrow)
      have HRD := Lib.hid hrd
      have HT0 := Lib.hid ht
      clear ht hTv hrow hrd
      have hk2 := Lib.hid hk
      clear hk
      obtain ⟨q, hq'⟩ : ∃ q, st0.length = q := ⟨_, rfl⟩
      have HQ := Lib.hid hq'
      rw [hq'] at hcap hcx hq hlen
      have HT1 : Hid (Trv (cOf' cs) a J T w.heap.size W.heap.size pre (st0 ++ [(kx : Int)]) sn [] (.slice (some ⟨g, 0, none⟩) (q + 1) cap) wr) := Lib.hid (by have := HT0.out; rwa [hq'] at this)
      rw [show (st0 ++ [(kx : Int)]).length = q + 1 from by rw [List.length_append, hq']; rfl]
      clear hq' HT0
      gi_wp2
      refine hR.mono ?_
      clear hR hy
      rintro e W3 ⟨rfl, hj3, hc3, ht3⟩
      have HV3 : Hid (Trv (cOf' cs) a J T w.heap.size W.heap.size (pre ++ [(kx : Int)]) st0 sn row (.slice (some ⟨g, 0, none⟩) q cap) W3) := Lib.hid (by
        have h := HT1.out
        rw [← HQ.out] at h ⊢
        rw [← HX.out]
        exact Trv.yielded (w0 := w) HT.out h hj3 hc3 ht3)
      have hW3 := (HT.out _ _ hj3).1
      clear hj3 hc3 ht3 HT1
      have b3 : W3.cell? ⟨bg, 0, none⟩ = some (.pointer (some ⟨gb, 0, none⟩)) := (hW3.cell (p := ⟨bg, 0, none⟩) lg).trans hbg
      have g3 : W3.cell? ⟨gb, 1, none⟩ = some (.slice (some ⟨rb, roff, none⟩) cs.length cc) := (hW3.cell (p := ⟨gb, 1, none⟩) lb).trans hg1
      have r3 : W3.cell? ⟨rb, roff + kx, none⟩ = some (.slice ra row.length rc) := (hW3.cell (p := ⟨rb, roff + kx, none⟩) lrb).trans hrcell
      have hr9 : row.length ≤ 9223372036854775807 := by unfold maxLen at hrm; omega
      clear hW3
      gi_wp2
      clear b3 g3 r3
      gi_loopw [5, 40] (fun v i wr => ∃ (k : Nat) (st sn : List Int), k ≤ row.length ∧ i = .int .i64 k ∧ Trv (cOf' cs) a J T w.heap.size W.heap.size (pre ++ [(kx : Int)]) st sn (row.drop k) v wr) (fun _ i _ => row.length - (Go.RowKit.intOf i).toNat)
      case atStart => exact ⟨0, st0, sn, Nat.zero_le _, rfl, by have h := HV3.out; rw [← HQ.out] at h; rw [← HQ.out]; exact h⟩
      case round =>
        clear HV3
        obtain ⟨k, st, sn, hk, rfl, ht⟩ := hrel
        have hwr := (HT.out _ _ ht.j).1
        by_cases hlt : k < row.length
        · obtain ⟨b, off, y, rfl, hy, hcell⟩ := (HRD.out.mono (fun b o u hu _ => (hwr.cell (p := ⟨b, o, none⟩) (World.block_lt_of_cell? w _ hu)).trans hu) : Rd wr ra row.length 1 (ints .i64 row)).at1 hlt
          have hdrop : row.drop k = y :: row.drop (k + 1) := by
            rw [List.drop_eq_getElem_cons hlt]
            congr 1
            exact Option.some.inj ((List.getElem?_eq_getElem hlt).symm.trans hy)
          rw [hdrop] at ht
          have hyb := ht.d.bd HG.out ha (x := y) (.inr (.inr (by simp)))
          have hln := ht.d.len HG.out ha
          have hsn := ht.sz
          have wfy : (Lit.int .i64 y).wf = true := wf_small (by omega)
          have hL := ht.s.look (t := 112) Tryz.underlying3 mapT Tryz.underlying4 (by kernel_rfl) wfy
          clear hy hdrop hwr
          by_cases hin : y ∈ sn
          · have HT2 := Lib.hid (ht.skip hin)
            rw [decide_eq_true hin] at hL
            clear ht hin
            gi_wp2
            go_roundw
            case rel => exact ⟨k + 1, st, sn, by omega, by go_num, HT2.out⟩
            case measure => simp [Go.RowKit.intOf]; omega
          · rw [decide_eq_false hin] at hL
            obtain ⟨w2, hr2, s2, g2⟩ := ht.s.put (t := 112) Tryz.underlying3 mapT Tryz.underlying4 wfy (by omega)
            have o2 := owns_chg ht.o (Chg.of_grownBy g2) (fun b hb e => map_ne_row ht.s ht.o (by rw [hb, Option.some.inj e]))
            obtain ⟨v3, w3, hr3, o3, g3, hv3⟩ := owns_append_lit (P := Tryz.prog) w2 intEl o2 1 [.int .i64 y] rfl (by simp [Value.oneCell']) (by omega) (by omega) (by have := g2.size; have := (ht.o.lt); have h5 := (HT.out _ _ ht.j).1.size; omega)
            have HT2 := Lib.hid (Trv.push HT.out HJ.out (Nat.le_refl _) HW.out.size ht hin s2 g2 o3 g3 hv3)
            obtain ⟨A, cap2, rfl⟩ := owns_slice ht.o
            have R3 := Lib.hid hr3
            clear ht hin s2 g2 o2 o3 g3 hv3 hr3
            gi_wp2_with (gi_at_builtin; refine wpListIn_append_run rfl _ _ rfl rfl rfl rfl R3.out ?_)
            go_roundw
            case rel => exact ⟨k + 1, st ++ [y], y :: sn, by omega, by go_num, HT2.out⟩
            case measure => simp [Go.RowKit.intOf]; omega
        · obtain rfl : k = row.length := by omega
          rw [List.drop_length] at ht
          have HT2 := Lib.hid ht
          clear ht hwr
          gi_wp2
          gi_roundg (cs.length - (pre ++ [(kx : Int)]).length)
          case measure => have := hk2.out; simp; omega
          case rel => exact ⟨_, st, sn, HT2.out, Nat.le_refl _⟩
end Go.Proofs.YtdddhnepanjmfaaGreat
