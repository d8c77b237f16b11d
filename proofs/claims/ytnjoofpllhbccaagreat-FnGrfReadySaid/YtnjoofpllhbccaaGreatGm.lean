/- Lemmas and walks of this proof, some texts one behind the other. No condition. -/
import Derived.Test.YtnjoofpllhbccaaGreatBase
import Derived.Shelf.SlIterI.Sorted
import Derived.Maps.OwnIn
import Derived.Maps.Views
import Derived.Lib.SlicesCompact
set_option linter.unusedSimpArgs false
set_option linter.unusedVariables false
/- slices.Sorted against an iterator that keeps memory of its own: a round changes the collector's blocks alone. Over any program that holds the library's texts. No condition. -/
namespace Go.Proofs.YtnjoofpllhbccaaGreat
open Go.RowKit Go.Maps Go.Sort Go.Shelf Go.Proofs
set_option linter.unusedVariables false
set_option linter.unusedSimpArgs false

section
variable {P : Program} {ρ : Ren}
/-- The collector's blocks in a world. -/
def ApT (ρ : Ren) (Bs l D : Nat) (W : World) (b : Nat) : Prop := b = Bs ∨ b = l ∨ b = D ∨ ∃ v, W.heap[Bs]? = some (.cells #[v] (ρ.t 24) (0, 0)) ∧ v.ownBlock = some b
/-- What an iterator with memory of its own is asked: whoever collects (J, its blocks T), however its rounds go on. -/
def SeqOwn (F : Fence) (n : Nat) (P : Program) (g : Nat) (lb : Array Value) (S : List Int → Prop) (N : Nat) (w : World) : Prop :=
  ∀ (l : Nat) (J : List Int → World → Prop) (T : World → Nat → Prop) (W : World), Below w.heap.size w W →
    (∀ pre W1, J pre W1 → Below w.heap.size w W1 ∧ ∀ b, T W1 b → w.heap.size ≤ b ∧ b < W1.heap.size) →
    (∀ pre W1 W2, J pre W1 → Chg (fun b => w.heap.size ≤ b ∧ ¬ T W1 b) W1 W2 → J pre W2 ∧ ∀ b, T W2 b → T W1 b) →
    (∀ pre x W1, J pre W1 → pre.length < N → YieldAt F (n - 1) P l #[encZ x] W1 fun e W2 => e = .returned (.bool true) ∧ J (pre ++ [x]) W2 ∧ Chg (T W1) W1 W2 ∧ ∀ b, T W2 b → T W1 b ∨ W1.heap.size ≤ b) →
    J [] W →
    CallsIn F n P g (#[.func (.yield l) #[] #[]] ++ lb) W fun e W' => (∃ v, e = .returned v) ∧ ∃ xs, S xs ∧ J xs W'

/-- What stands as long as the collector's blocks stand. -/
theorem apAt_chg {w0 : World} {fn : FuncId} {sv : Value} {Bs l D : Nat} {ss : List Int} {W W' : World} (h : AnyZI.ApAt ρ w0 fn sv Bs l D ss W) (c : Chg (fun b => w0.heap.size ≤ b ∧ ¬ ApT ρ Bs l D W b) W W') :
    AnyZI.ApAt ρ w0 fn sv Bs l D ss W' ∧ ∀ b, ApT ρ Bs l D W' b → ApT ρ Bs l D W b := by
  obtain ⟨v, hv, hr, hn⟩ := h.box
  have keep : ∀ b o, W.heap[b]? = some o → ApT ρ Bs l D W b → W'.heap[b]? = some o := fun b o hb ht => (c.block b (Array.getElem?_eq_some_iff.1 hb).1 (fun e => e.2 ht)).trans hb
  have hv' := keep Bs _ hv (.inl rfl)
  refine ⟨⟨⟨v, hv', ?_, hn⟩, keep l _ h.L (.inr (.inl rfl)), keep D _ h.K (.inr (.inr (.inl rfl))), ?_⟩, ?_⟩
  · exact owns_chg hr c (fun b hb e => e.2 (.inr (.inr (.inr ⟨v, hv, hb⟩))))
  · exact h.below.trans ⟨c.os, c.tape, c.output, c.size, fun k hk => c.block k (Nat.lt_of_lt_of_le hk h.below.size) (fun e => by omega)⟩
  · rintro b (h1 | h1 | h1 | ⟨v', h1, h2⟩)
    · exact .inl h1
    · exact .inr (.inl h1)
    · exact .inr (.inr (.inl h1))
    · rw [hv'] at h1
      simp only [Option.some.injEq, Obj.cells.injEq, Array.mk.injEq, List.cons.injEq, and_true] at h1
      exact .inr (.inr (.inr ⟨v, hv, by rw [h1]; exact h2⟩))

set_option maxRecDepth 100000 in
set_option maxHeartbeats 2000000 in
/-- A round of slices.AppendSeq: what it appends, and that it changes its own blocks alone. -/
theorem apYield2 (L : SlLaysZI.n11 P ρ) (F : Fence) (m : Nat) (w0 : World) (fn : FuncId) (hfn : F.fn fn) (sv : Value) (Bs l D : Nat) (hBl : Bs ≠ l) (hDl : D ≠ l) (hDB : D ≠ Bs) (h0B : w0.heap.size ≤ Bs) (h0l : w0.heap.size ≤ l)
    (N : Nat) (hN : N ≤ maxLen) (hNb : N * 8 ≤ 140737488355328) (ss : List Int) (x : Int) (W : World) (h : AnyZI.ApAt ρ w0 fn sv Bs l D ss W) (hlen : ss.length < N) :
    YieldAt F m P l #[encZ x] W fun e W' => e = .returned (.bool true) ∧ AnyZI.ApAt ρ w0 fn sv Bs l D (ss ++ [x]) W' ∧ Chg (ApT ρ Bs l D W) W W' ∧ ∀ b, ApT ρ Bs l D W' b → ApT ρ Bs l D W b ∨ W.heap.size ≤ b := by
  have hne : ρ.t 24 ≠ ρ.t 26 := fun e => by have h := L.t24; rw [e, L.t26] at h; cases h
  have t0 := L.t0; have a0 := L.a0; have z0 := L.z0; have v0 := L.v0; have t24 := L.t24; have a24 := L.a24; have z24 := L.z24; have v24 := L.v24; have t26 := L.t26; have a26 := L.a26; have z26 := L.z26; have v26 := L.v26; have t28 := L.t28; have a28 := L.a28; have z28 := L.z28; have v28 := L.v28
  have u0 := run_underlying L.t0; have u24 := run_underlying L.t24; have u26 := run_underlying L.t26; have u28 := run_underlying L.t28
  have mixed := L.mixed
  obtain ⟨i0, hi, hz0, hz1, hz2⟩ := info_parts L.i26
  obtain ⟨v, hv, hrow, _⟩ := h.box
  have hrl := fun b hb => hrow.lt b hb
  refine ⟨fn, #[.slice none 0 0, sv, .pointer (some ⟨Bs, 0, none⟩), undef, .slice none 0 0, undef, sv, encZ x, undef, undef, undef, undef, undef], AnyZI.apAssign ρ, AnyZI.apBody ρ, by simpa [AnyZI.apRec] using run_yield (P := P) (args := #[encZ x]) h.L rfl, roundIn_of_wpIn hfn ?_⟩
  have hl : l < W.heap.size := (Array.getElem?_eq_some_iff.1 h.L).1
  have hBW : Bs < W.heap.size := (Array.getElem?_eq_some_iff.1 hv).1
  have hbr := run_beginRound (P := P) h.L rfl
  obtain ⟨W2, hW2⟩ : ∃ W2, W.putObj l (.loop { AnyZI.apRec ρ fn sv Bs D .ready none with state := .busy }) = W2 := ⟨_, rfl⟩
  rw [hW2] at hbr
  have hg2 : W.grownBy W2 (some l) := by rw [← hW2]; exact grownBy_putObj_a _ _ _
  have HZ2 : Hid (W2.heap.size = W.heap.size) := Lib.hid (by rw [← hW2]; simp [World.putObj])
  have hv2 : W2.heap[Bs]? = some (.cells #[v] (ρ.t 24) (0, 0)) := by rw [← hW2]; exact (World.putObj_heap_other hBl).trans hv
  have hK2 : W2.heap[D]? = some (.deferred (some [])) := by rw [← hW2]; exact (World.putObj_heap_other hDl).trans h.K
  have hL2 : W2.heap[l]? = some (.loop { AnyZI.apRec ρ fn sv Bs D .ready none with state := .busy }) := by rw [← hW2]; exact World.putObj_heap_same hl
  have hrow2 : W2.ownsRow w0.heap.size (ρ.t 26) 1 v ss.length (ss.map encZ) := hrow.kept hg2 (ownsRow_ne_a hrow h.L (fun cur e => by first | cases e | exact hne (Obj.cells.inj e).2.1))
  have hb2 : Below w0.heap.size w0 W2 := h.below.grown hg2 h.below.size (fun k e => by cases e; exact h0l)
  obtain ⟨hc2, hf2⟩ := cell_of_box_a hv2
  have hBlt : Bs < W2.heap.size := (Array.getElem?_eq_some_iff.1 hv2).1
  have hl2 : l < W2.heap.size := (Array.getElem?_eq_some_iff.1 hL2).1
  have hDlt : D < W2.heap.size := (Array.getElem?_eq_some_iff.1 hK2).1
  have ne_of : ∀ {j : Nat} {o : Obj}, W2.heap[j]? = some o → (∀ cur, o ≠ .cells cur (ρ.t 26) (0, 0)) → some j ≠ v.ownBlock := fun hj hno => by
    rcases ownsRow_ne_a hrow2 hj hno with e | e
    · rw [e]; simp
    · exact fun e' => e e'.symm
  clear hW2
  unfold AnyZI.apAssign
  gi_wp2_with gi_round_op_a
  unfold AnyZI.apBody
  gi_wp2_with (first
    | (gi_at_builtin; refine wpListIn_append_own_at _ rfl _ _ (ρ.t 24) rfl w0.heap.size (ρ.t 26) i0 (.int .i64 0) 1 8 L.t24 hi hz0 hz1 hz2 rfl (by decide) _ _ _ rfl (hrow2.alloc _) ⟨W2.heap.size, 0, none⟩ 1 1 [encZ x] rfl rfl (cell_one_new _ _ _) (by simp [Value.oneCell', encZ]) (by omega) (by omega) (by have := hb2.size; simp; omega) ?_; intro v' w3 hown' hg3 hnil3 hat3
       have hv3 : w3.heap[Bs]? = some (.cells #[v] (ρ.t 24) (0, 0)) := (hg3.block Bs (by simp; omega) (ne_of hv2 (fun cur e => by first | cases e | exact hne (Obj.cells.inj e).2.1))).trans ((Below.heap_alloc _ _ Bs hBlt).trans hv2)
       obtain ⟨hc3, hf3⟩ := cell_of_box_a hv3
       obtain ⟨g', cap', cur', rfl, hbase', hgb', hr1, hr2, hr3, hr4⟩ : ∃ g' cap' cur', v' = .slice (some ⟨g', 0, none⟩) (ss.length + 1) cap' ∧ w0.heap.size ≤ g' ∧ w3.heap[g']? = some (.cells cur' (ρ.t 26) (0, 0)) ∧ ss.length + 1 ≤ cap' ∧ cap' ≤ maxLen ∧ cur'.size = cap' * 1 ∧ cur'.toList.take ((ss.length + 1) * 1) = ss.map encZ ++ [encZ x] := by
         rcases hown'.2 with ⟨_, h0⟩ | h'
         · exact absurd h0 (by omega)
         · exact h'
       go_frame)
    | gi_round_op_a)
  have hg3' : (W2.alloc (.cells #[encZ x] (ρ.t 26))).grownBy w3 v.ownBlock := hg3
  have hL3 : w3.heap[l]? = some (.loop { AnyZI.apRec ρ fn sv Bs D .ready none with state := .busy }) := (hg3'.block l (by simp; omega) (ne_of hL2 (fun cur e => by first | cases e | exact hne (Obj.cells.inj e).2.1))).trans ((Below.heap_alloc _ _ l hl2).trans hL2)
  have hK3 : w3.heap[D]? = some (.deferred (some [])) := (hg3'.block D (by simp; omega) (ne_of hK2 (fun cur e => by first | cases e | exact hne (Obj.cells.inj e).2.1))).trans ((Below.heap_alloc _ _ D hDlt).trans hK2)
  obtain ⟨w4, hw4⟩ : ∃ w4, w3.setCell ⟨Bs, 0, none⟩ (.slice (some ⟨g', 0, none⟩) (ss.length + 1) cap') = w4 := ⟨_, rfl⟩
  rw [hw4]
  have hg4 : w3.grownBy w4 (some Bs) := by rw [← hw4]; exact grownBy_setCell0_a _ _ _
  have hv4 : w4.heap[Bs]? = some (.cells #[.slice (some ⟨g', 0, none⟩) (ss.length + 1) cap'] (ρ.t 24) (0, 0)) := by rw [← hw4]; exact heap_setCell_box_a _ hv3
  have hL4 : w4.heap[l]? = some (.loop { AnyZI.apRec ρ fn sv Bs D .ready none with state := .busy }) := (hg4.block l (Array.getElem?_eq_some_iff.1 hL3).1 (fun e => hBl (by cases e; rfl))).trans hL3
  have hK4 : w4.heap[D]? = some (.deferred (some [])) := (hg4.block D (Array.getElem?_eq_some_iff.1 hK3).1 (fun e => hDB (by cases e; rfl))).trans hK3
  have hrow4 := hown'.kept hg4 (ownsRow_ne_a hown' hv3 (fun cur e => by first | cases e | exact hne (Obj.cells.inj e).2.1))
  have hl4 : l < w4.heap.size := (Array.getElem?_eq_some_iff.1 hL4).1
  have hb3 : Below w0.heap.size w0 w3 := (hb2.alloc hb2.size _).grown hg3' (by have := hb2.size; simp; omega) (fun k e => (hrow2.lt k e).1)
  have hb4 : Below w0.heap.size w0 w4 := hb3.grown hg4 hb3.size (fun k e => by cases e; exact h0B)
  have hs3 : W2.heap.size + 1 ≤ w3.heap.size := by have := hg3'.size; simpa using this
  have hs4 := hg4.size
  have hz2s := HZ2.out
  clear hw4
  refine ⟨_, _, run_endRound none hL4, rfl, ⟨⟨_, (World.putObj_heap_other hBl).trans hv4, ?_, by simp⟩, World.putObj_heap_same hl4, (World.putObj_heap_other hDl).trans hK4, hb4.grown (grownBy_putObj_a _ _ _) hb4.size (fun k e => by cases e; exact h0l)⟩, ?_, ?_⟩
  · have := hrow4.kept (grownBy_putObj_a w4 l (.loop { { AnyZI.apRec ρ fn sv Bs D .ready none with state := .busy } with state := if (none : Option Code).isNone then .ready else .done, pending := none })) (ownsRow_ne_a hrow4 hL4 (fun cur e => by first | cases e | exact hne (Obj.cells.inj e).2.1))
    simpa using this
  · have c1 : Chg (ApT ρ Bs l D W) W W2 := ⟨hg2.os, hg2.tape, hg2.output, hg2.size, fun k hk hn => hg2.block k hk (fun e => hn (.inr (.inl (Option.some.inj e))))⟩
    have c2 : Chg (ApT ρ Bs l D W) W w3 := ⟨hg3'.os.trans c1.os, hg3'.tape.trans c1.tape, hg3'.output.trans c1.output, by omega, fun k hk hn => (hg3'.block k (by simp; omega) (fun e => hn (.inr (.inr (.inr ⟨v, hv, e.symm⟩))))).trans ((Below.heap_alloc _ _ k (by omega)).trans (c1.block k hk hn))⟩
    have c3 : Chg (ApT ρ Bs l D W) W w4 := ⟨hg4.os.trans c2.os, hg4.tape.trans c2.tape, hg4.output.trans c2.output, by omega, fun k hk hn => (hg4.block k (by omega) (fun e => hn (.inl (Option.some.inj e)))).trans (c2.block k hk hn)⟩
    have hg5 := grownBy_putObj_a w4 l (.loop { { AnyZI.apRec ρ fn sv Bs D .ready none with state := .busy } with state := if (none : Option Code).isNone then .ready else .done, pending := none })
    exact ⟨hg5.os.trans c3.os, hg5.tape.trans c3.tape, hg5.output.trans c3.output, Nat.le_trans c3.size hg5.size, fun k hk hn => (hg5.block k (by omega) (fun e => hn (.inr (.inl (Option.some.inj e))))).trans (c3.block k hk hn)⟩
  · rintro b (h1 | h1 | h1 | ⟨v', h1, h2⟩)
    · exact .inl (.inl h1)
    · exact .inl (.inr (.inl h1))
    · exact .inl (.inr (.inr (.inl h1)))
    · rw [(World.putObj_heap_other hBl).trans hv4] at h1
      simp only [Option.some.injEq, Obj.cells.injEq, Array.mk.injEq, List.cons.injEq, and_true] at h1
      rw [← h1] at h2
      rcases hat3 with e | e
      · exact .inl (.inr (.inr (.inr ⟨v, hv, e.symm.trans h2⟩)))
      · right
        rw [e] at h2
        simp only [World.size_alloc, Option.some.injEq] at h2
        omega

set_option maxRecDepth 100000 in
set_option maxHeartbeats 2000000 in
/-- slices.AppendSeq(nil, seq) against such an iterator. -/
theorem appendSeq2 (L : SlLaysZI.n11 P ρ) (F : Fence) (n : Nat) (h11 : F.fn (ρ.f 11)) (hro : F.round = none) (hn : 2 ≤ n) (g : Nat) (lb : Array Value) (hFg : F.fn g) (eg : ∀ args w, (callFunc g args).run P w = .ok (.enter g args) w)
    (S : List Int → Prop) (N : Nat) (hN : N ≤ maxLen) (hNb : N * 8 ≤ 140737488355328) (w : World) (hseq : SeqOwn F (n - 1) P g lb S N w) :
    CallsIn F n P (ρ.f 11) #[.slice none 0 0, .func (.func g) #[] lb] w fun e w' => ∃ (v : Value) (ss : List Int), e = .returned v ∧ S ss ∧ w'.ownsRow w.heap.size (ρ.t 26) 1 v ss.length (ss.map encZ) ∧ Below w.heap.size w w' := by
  have h1 : 1 ≤ n := by omega
  have hne : ρ.t 24 ≠ ρ.t 26 := fun e => by have h := L.t24; rw [e, L.t26] at h; cases h
  have t0 := L.t0; have a0 := L.a0; have z0 := L.z0; have v0 := L.v0; have t24 := L.t24; have a24 := L.a24; have z24 := L.z24; have v24 := L.v24; have t26 := L.t26; have a26 := L.a26; have z26 := L.z26; have v26 := L.v26; have t28 := L.t28; have a28 := L.a28; have z28 := L.z28; have v28 := L.v28
  have u0 := run_underlying L.t0; have u24 := run_underlying L.t24; have u26 := run_underlying L.t26; have u28 := run_underlying L.t28
  have mixed := L.mixed
  obtain ⟨_, _, FG⟩ := L.f11
  refine callsIn_of_wp_marks FG rfl h11 ?_ hro
  simp only [SlBodyZ.n11_ntmps ρ, List.size_toArray, List.length_cons, List.length_nil, Nat.reduceAdd, Nat.reduceSub, Array.replicate_succ, Array.replicate_zero, List.push_toArray, List.append_toArray, List.nil_append, List.cons_append]
  gi_wp2
  refine wpIn_rangeFunc ?_
  intro fn hfn
  rw [hro]
  obtain ⟨W0, hW0⟩ : ∃ W0, w.alloc (.cells #[.slice none 0 0] (ρ.t 24)) = W0 := ⟨_, rfl⟩
  have hs0 : W0.heap.size = w.heap.size + 1 := by rw [← hW0]; simp
  have hv0 : W0.heap[w.heap.size]? = some (.cells #[.slice none 0 0] (ρ.t 24) (0, 0)) := by rw [← hW0]; exact World.alloc_heap_new w _
  have hb0 : Below w.heap.size w W0 := by rw [← hW0]; exact (Below.refl _ w).alloc (Nat.le_refl _) _
  rw [hW0]
  obtain ⟨W1, hW1⟩ : ∃ W1, (W0.alloc (.deferred (some []))).alloc (.loop (AnyZI.apRec ρ fn (.func (.func g) #[] lb) w.heap.size W0.heap.size .ready none)) = W1 := ⟨_, rfl⟩
  have hold : ∀ k, k < W0.heap.size → W1.heap[k]? = W0.heap[k]? := fun k hk => by
    rw [← hW1]; exact (Below.heap_alloc _ _ k (by simp; omega)).trans (Below.heap_alloc _ _ k hk)
  have hb1 : Below w.heap.size w W1 := by rw [← hW1]; exact (hb0.alloc hb0.size _).alloc (by have := hb0.size; simp; omega) _
  have hs1 : W1.heap.size = W0.heap.size + 2 := by rw [← hW1]; simp
  have hM : AnyZI.ApAt ρ w fn (.func (.func g) #[] lb) w.heap.size (W0.heap.size + 1) W0.heap.size [] W1 :=
    ⟨⟨_, (hold w.heap.size (by omega)).trans hv0, ⟨rfl, .inl ⟨rfl, rfl⟩⟩, by simp⟩,
     by rw [← hW1]; have := World.alloc_heap_new (W0.alloc (.deferred (some []))) (.loop (AnyZI.apRec ρ fn (.func (.func g) #[] lb) w.heap.size W0.heap.size .ready none)); rwa [World.size_alloc] at this,
     by rw [← hW1]; exact (Below.heap_alloc _ _ _ (by simp)).trans (World.alloc_heap_new W0 _), hb1⟩
  refine ⟨W0.heap.size + 1, [{ target := .collected W0.heap.size, args := #[] }], W1, { target := .fn (.func g) lb, args := #[.func (.yield (W0.heap.size + 1)) #[] #[]] }, W1, g,
    #[.func (.yield (W0.heap.size + 1)) #[] #[]] ++ lb, W1, ?_, ?_, ?_, ?_, fun _ => h1, ?_⟩
  · rw [← hW1]; exact run_enterLoop_outer _ _ _ _ _
  · simp [resolve, go_sem]
  · intro f' hf'; simp [Target.leads] at hf'; subst hf'; exact hFg
  · simp [invoke, go_sem, eg]
  · refine (hseq (W0.heap.size + 1) (AnyZI.ApAt ρ w fn (.func (.func g) #[] lb) w.heap.size (W0.heap.size + 1) W0.heap.size) (ApT ρ w.heap.size (W0.heap.size + 1) W0.heap.size) W1 hb1
      (fun pre W hJ => ⟨hJ.below, fun b hb => ?_⟩) (fun pre W W' hJ c => apAt_chg hJ c)
      (fun pre x W hJ hl => apYield2 { L with } F (n - 1 - 1) w fn hfn _ w.heap.size (W0.heap.size + 1) W0.heap.size (by omega) (by omega) (by omega) (Nat.le_refl _) (by omega) N hN hNb pre x W hJ hl) hM).mono ?_
    · obtain ⟨v, hv, hr, _⟩ := hJ.box
      have q1 := (Array.getElem?_eq_some_iff.1 hv).1
      have q2 := (Array.getElem?_eq_some_iff.1 hJ.L).1
      have q3 := (Array.getElem?_eq_some_iff.1 hJ.K).1
      rcases hb with h | h | h | ⟨v', h2, h3⟩
      · omega
      · omega
      · omega
      · rw [hv] at h2
        simp only [Option.some.injEq, Obj.cells.injEq, Array.mk.injEq, List.cons.injEq, and_true] at h2
        rw [← h2] at h3
        exact hr.lt b h3
    rintro e W2 ⟨⟨v0, rfl⟩, ss, hS, h2⟩
    obtain ⟨v, hv, hrow, hnil⟩ := h2.box
    have hend := run_endLoop (P := P) h2.L (by simp [AnyZI.apRec])
    obtain ⟨W3, hW3⟩ : ∃ W3, W2.putObj (W0.heap.size + 1) (.loop { AnyZI.apRec ρ fn (.func (.func g) #[] lb) w.heap.size W0.heap.size .ready none with state := .exhausted }) = W3 := ⟨_, rfl⟩
    rw [hW3] at hend
    have hg3 : W2.grownBy W3 (some (W0.heap.size + 1)) := by rw [← hW3]; exact grownBy_putObj_a _ _ _
    have hv3 : W3.heap[w.heap.size]? = some (.cells #[v] (ρ.t 24) (0, 0)) := by rw [← hW3]; exact (World.putObj_heap_other (by omega)).trans hv
    have hK3 : W3.heap[W0.heap.size]? = some (.deferred (some [])) := by rw [← hW3]; exact (World.putObj_heap_other (by omega)).trans h2.K
    have hrow3 := hrow.kept hg3 (ownsRow_ne_a hrow h2.L (fun cur e => by first | cases e | exact hne (Obj.cells.inj e).2.1))
    have hb3 : Below w.heap.size w W3 := h2.below.grown hg3 h2.below.size (fun k e => by cases e; omega)
    obtain ⟨hc3, hf3⟩ := cell_of_box_a hv3
    clear hW3
    refine ⟨none, W3, hend, ?_⟩
    gi_wp2
    rw [← hs0]
    refine ⟨by simp, .inl ⟨_, _, rfl, run_takeDeferred hK3, ?_⟩⟩
    exact ⟨_, results_tmp rfl _ _ _, v, ss, rfl, hS, hrow3.kept (grownBy_putObj_a _ _ _) (ownsRow_ne_a hrow3 hK3 (fun cur e => by first | cases e | exact hne (Obj.cells.inj e).2.1)), hb3.grown (grownBy_putObj_a _ _ _) hb3.size (fun k e => by cases e; omega)⟩

set_option maxHeartbeats 1000000 in
/-- slices.Collect(seq) against such an iterator. -/
theorem collect2 (L : SlLaysZI.n8 P ρ) (F : Fence) (n : Nat) (h8 : F.fn (ρ.f 8)) (h11 : F.fn (ρ.f 11)) (hro : F.round = none) (hn : 3 ≤ n) (g : Nat) (lb : Array Value) (hFg : F.fn g) (eg : ∀ args w, (callFunc g args).run P w = .ok (.enter g args) w)
    (S : List Int → Prop) (N : Nat) (hN : N ≤ maxLen) (hNb : N * 8 ≤ 140737488355328) (w : World) (hseq : SeqOwn F (n - 1 - 1) P g lb S N w) :
    CallsIn F n P (ρ.f 8) #[.func (.func g) #[] lb] w fun e w' => ∃ (v : Value) (ss : List Int), e = .returned v ∧ S ss ∧ w'.ownsRow w.heap.size (ρ.t 26) 1 v ss.length (ss.map encZ) ∧ Below w.heap.size w w' := by
  have h1 : 1 ≤ n := by omega
  have e11 : ∀ args w, (callFunc (ρ.f 11) args).run P w = .ok (.enter (ρ.f 11) args) w := L.f11.enters rfl
  have t0 := L.t0; have a0 := L.a0; have z0 := L.z0; have v0 := L.v0; have t24 := L.t24; have a24 := L.a24; have z24 := L.z24; have v24 := L.v24; have t26 := L.t26; have a26 := L.a26; have z26 := L.z26; have v26 := L.v26; have t28 := L.t28; have a28 := L.a28; have z28 := L.z28; have v28 := L.v28
  have u0 := run_underlying L.t0; have u24 := run_underlying L.t24; have u26 := run_underlying L.t26; have u28 := run_underlying L.t28
  have mixed := L.mixed
  obtain ⟨_, _, FG⟩ := L.f8
  refine callsIn_of_wp FG rfl h8 ?_ hro
  simp only [SlBodyZ.n8_ntmps ρ, List.size_toArray, List.length_cons, List.length_nil, Nat.reduceAdd, Nat.reduceSub, Array.replicate_succ, Array.replicate_zero, List.push_toArray, List.append_toArray, List.nil_append, List.cons_append]
  gi_wp2_with (gi_at_fn (ρ.f 11); refine (appendSeq2 { L with } F (n - 1) h11 hro (by omega) g lb hFg eg S N hN hNb _ hseq).mono ?_; rintro e w' ⟨v, ss, rfl, hS, hrow, hb⟩)
  go_ret
  exact ⟨v, ss, rfl, hS, hrow, hb⟩

set_option maxRecDepth 100000 in
set_option maxHeartbeats 2000000 in
/-- slices.Sorted(seq) against such an iterator: a new slice of what it gave, sorted. -/
theorem sorted2 (L : SlLaysZI.n6 P ρ) (F : Fence) (n : Nat) (h6 : F.fn (ρ.f 6)) (h8 : F.fn (ρ.f 8)) (h9 : F.fn (ρ.f 9)) (h11 : F.fn (ρ.f 11)) (hro : F.round = none) (hn : 4 ≤ n) (hsort : AnyZI.SortsIn P ρ F (n - 1)) (e9 : ∀ args w, (callFunc (ρ.f 9) args).run P w = .ok (.enter (ρ.f 9) args) w) (g : Nat) (lb : Array Value) (hFg : F.fn g) (eg : ∀ args w, (callFunc g args).run P w = .ok (.enter g args) w)
    (S : List Int → Prop) (N : Nat) (hN : N ≤ maxLen) (hNb : N * 8 ≤ 140737488355328) (hSN : ∀ ss, S ss → ss.length ≤ N) (w : World) (hseq : SeqOwn F (n - 1 - 1 - 1) P g lb S N w) :
    CallsIn F n P (ρ.f 6) #[.func (.func g) #[] lb] w fun e w' => ∃ (v : Value) (ss : List Int), e = .returned v ∧ S ss ∧
      w'.ownsRow w.heap.size (ρ.t 26) 1 v ss.length ((ss.mergeSort (fun x y => decide (x ≤ y))).map encZ) ∧ Below w.heap.size w w' := by
  have h1 : 1 ≤ n := by omega
  have e8 : ∀ args w, (callFunc (ρ.f 8) args).run P w = .ok (.enter (ρ.f 8) args) w := L.f8.enters rfl
  have t0 := L.t0; have a0 := L.a0; have z0 := L.z0; have v0 := L.v0; have t24 := L.t24; have a24 := L.a24; have z24 := L.z24; have v24 := L.v24; have t26 := L.t26; have a26 := L.a26; have z26 := L.z26; have v26 := L.v26; have t28 := L.t28; have a28 := L.a28; have z28 := L.z28; have v28 := L.v28
  have u0 := run_underlying L.t0; have u24 := run_underlying L.t24; have u26 := run_underlying L.t26; have u28 := run_underlying L.t28
  have mixed := L.mixed
  obtain ⟨_, _, FG⟩ := L.f6
  refine callsIn_of_wp FG rfl h6 ?_ hro
  simp only [SlBodyZ.n6_ntmps ρ, List.size_toArray, List.length_cons, List.length_nil, Nat.reduceAdd, Nat.reduceSub, Array.replicate_succ, Array.replicate_zero, List.push_toArray, List.append_toArray, List.nil_append, List.cons_append]
  gi_wp2_with (gi_at_fn (ρ.f 8); refine (collect2 { L with } F (n - 1) h8 h11 hro (by omega) g lb hFg eg S N hN hNb _ hseq).mono ?_; rintro e W ⟨v, ss, rfl, hS, hrow, hb⟩)
  have hlen := hSN ss hS
  rcases hrow.2 with ⟨rfl, hz⟩ | ⟨gb, cap, cur, rfl, hbase, hgb, r1, r2, r3, r4⟩
  · have hss : ss = [] := List.eq_nil_of_length_eq_zero hz
    subst hss
    gi_wp2_with (gi_at_fn (ρ.f 9); refine (hsort.2 none 0 W).mono ?_; rintro e w' ⟨rfl, rfl⟩)
    go_ret
    exact ⟨.slice none 0 0, [], rfl, hS, by simpa using hrow, hb⟩
  · have hH : Holds encZ W gb 0 ss.toArray := holds_of_block_i hgb (by simpa using r4)
    have hgl : gb < W.heap.size := (Array.getElem?_eq_some_iff.1 hgb).1
    have hsz : ss.length < 4611686018427387904 := by omega
    have cS := hsort.1 gb 0 cap ss W hH hgl hsz
    gi_wp2_with (gi_at_fn (ρ.f 9); refine cS.mono ?_; rintro e w' ⟨rfl, nn, os, rfl⟩)
    go_ret
    exact ⟨_, ss, rfl, hS, ownsRow_sorted_i (by simp) hbase hgb r1 r2 r3, hb.grown (grownBy_sorted_i _) hb.size (fun j hj => by cases hj; exact hbase)⟩
end
end Go.Proofs.YtnjoofpllhbccaaGreat

/- A set of numbers: a map of the call's own from int to bool. Over any program. No condition. -/
namespace Go.Proofs.YtnjoofpllhbccaaGreat
open Go.RowKit Go.Maps
set_option linter.unusedVariables false
set_option linter.unusedSimpArgs false

section
variable {P : Program} {t k e : TypeId} {w w' : World} {m : Nat} {ks : List Int} {x : Int}
/-- Block m is a map that holds true at the numbers of the list, and nothing else. -/
def SetB (P : Program) (k e : TypeId) (w : World) (m : Nat) (ks : List Int) : Prop :=
  ∃ (n : Nat) (D : DataW Unit), w.ownsMap P k (plainElem P e) m n D ∧ n ≤ ks.length ∧ IsMap D ∧ ∀ x : Int, (Lit.int .i64 x).wf = true → D.atKey (.int .i64 x) (.lit (.bool false)) = .lit (.bool (decide (x ∈ ks)))
theorem wf_small {x : Int} (h : -9223372036854775808 ≤ x ∧ x ≤ 9223372036854775807) : (Lit.int .i64 x).wf = true := WalkArith.wf_i64 (by omega)
theorem plainElem_bool_inv {P : Program} {e : TypeId} (he : P.underlying e = some .bool) {v : Value} {b : Bool} {ps : List MemPlace} (h : plainElem (H := Unit) P e v = some (.lit (.bool b), ps)) : v = .bool b := by
  unfold plainElem at h
  rw [he] at h
  cases v <;> simp at h
  obtain ⟨rfl, _⟩ := h
  rfl
theorem SetB.made (P : Program) (k e : TypeId) (w : World) : SetB P k e (w.alloc (.map #[] 0)) w.heap.size [] :=
  ⟨0, .map [], World.ownsMap_made w P k _, Nat.le_refl _, by first | trivial | exact ⟨_, rfl⟩ | simp [IsMap], fun x _ => by simp [DataW.atKey]⟩
theorem SetB.lt (h : SetB P k e w m ks) : m < w.heap.size := by
  obtain ⟨n, D, h1, _⟩ := h
  exact h1.lt
theorem SetB.chg {F : Nat → Prop} (h : SetB P k e w m ks) (c : Chg F w w') (hm : ¬ F m) : SetB P k e w' m ks := by
  obtain ⟨n, D, ⟨es, clock, hb, r⟩, h2⟩ := h
  exact ⟨n, D, ⟨es, clock, (c.block m (Array.getElem?_eq_some_iff.1 hb).1 hm).trans hb, r⟩, h2⟩
theorem SetB.grew (h : SetB P k e w m ks) (c : Grew w w') : SetB P k e w' m ks := h.chg (Chg.of_below (F := fun _ => False) c) (fun h => h)
theorem SetB.look (h : SetB P k e w m ks) (hk : P.underlying k = some (.int .i64)) (ht : P.underlying t = some (.map k e)) (he : P.underlying e = some .bool) (hz : (zeroValue e).run P w = .ok (.bool false) w) (hx : (Lit.int .i64 x).wf = true) :
    (Instr.lookup t (.map (some m)) (.int .i64 x) false).run P w = .ok (.bool (decide (x ∈ ks))) w := by
  obtain ⟨n, D, h1, _, _, h4⟩ := h
  obtain ⟨v, ps, hrun, hv⟩ := h1.lookup (int_keyed hk) ht hz (plainElem_bool he false) (keyOf_int_mk hk hx)
  rw [h4 x hx] at hv
  rw [hrun, plainElem_bool_inv he hv]
theorem SetB.put (h : SetB P k e w m ks) (hk : P.underlying k = some (.int .i64)) (ht : P.underlying t = some (.map k e)) (he : P.underlying e = some .bool) (hx : (Lit.int .i64 x).wf = true) (hl : ks.length < 1000000) :
    ∃ w', (Instr.mapUpdate t (.map (some m)) (.int .i64 x) (.bool true)).run P w = .ok () w' ∧ SetB P k e w' m (x :: ks) ∧ w.grownBy w' (some m) := by
  obtain ⟨n, D, h1, h2, h3, h4⟩ := h
  obtain ⟨w', hrun, hown, hg⟩ := h1.update (int_keyed hk) ht (by unfold maxLen; omega) (keyOf_int_mk hk hx) (plainElem_bool he true)
  refine ⟨w', hrun, ⟨n + 1, _, hown, by simp; omega, h3.put _ _, fun y hy => ?_⟩, hg⟩
  by_cases e : y = x
  · subst e
    rw [atKey_put_same h3 (by first | trivial | simp [WideAt.IsKeyLit])]
    simp
  · rw [atKey_put_other (by simpa using e), h4 y hy]
    simp [e]
end
end Go.Proofs.YtnjoofpllhbccaaGreat

/- Plain mathematics of sorted lists and of what can be come to in a graph. No condition. -/
namespace Go.Proofs.YtnjoofpllhbccaaGreat

/-- Strictly rising. -/
abbrev Srt (l : List Int) : Prop := l.Pairwise (· < ·)

theorem srt_ext : ∀ {a b : List Int}, Srt a → Srt b → (∀ x, x ∈ a ↔ x ∈ b) → a = b
  | [], [], _, _, _ => rfl
  | [], y :: ys, _, _, h => absurd ((h y).2 (by simp)) (by simp)
  | x :: xs, [], _, _, h => absurd ((h x).1 (by simp)) (by simp)
  | x :: xs, y :: ys, ha, hb, h => by
    obtain ⟨ha1, ha2⟩ := List.pairwise_cons.1 ha
    obtain ⟨hb1, hb2⟩ := List.pairwise_cons.1 hb
    have hxy : x = y := by
      rcases List.mem_cons.1 ((h x).1 (by simp)) with e | e
      · exact e
      · rcases List.mem_cons.1 ((h y).2 (by simp)) with e' | e'
        · exact e'.symm
        · have := hb1 x e
          have := ha1 y e'
          omega
    subst hxy
    rw [srt_ext ha2 hb2 fun z => ?_]
    constructor
    · intro hz
      rcases List.mem_cons.1 ((h z).1 (by simp [hz])) with e | e
      · have := ha1 z hz
        omega
      · exact e
    · intro hz
      rcases List.mem_cons.1 ((h z).2 (by simp [hz])) with e | e
      · have := hb1 z hz
        omega
      · exact e

/-! What slices.Sort and slices.Compact make of a list: strictly rising, the same members. -/
theorem compact_upto (d : Array Int) (hd : ∀ i j, i ≤ j → j < d.size → d[i]! ≤ d[j]!) : ∀ m, m ≤ d.size →
    Srt (Lib.compactUpTo d m) ∧ (∀ x, x ∈ Lib.compactUpTo d m ↔ ∃ j, j < m ∧ d[j]! = x)
  | 0, _ => by simp [Lib.compactUpTo]
  | m + 1, hm => by
    obtain ⟨h1, h2⟩ := compact_upto d hd m (by omega)
    rw [Lib.compactUpTo_succ]
    by_cases hk : Lib.keeps d m = true
    · rw [if_pos hk]
      constructor
      · refine List.pairwise_append.2 ⟨h1, by simp, fun x hx y hy => ?_⟩
        obtain ⟨j, hj, rfl⟩ := (h2 x).1 hx
        obtain rfl : y = d[m]! := by simpa using hy
        have hle := hd j (m - 1) (by omega) (by omega)
        have hle2 := hd (m - 1) m (by omega) (by omega)
        simp only [Lib.keeps, decide_eq_true_eq] at hk
        rcases hk with h | h
        · omega
        · omega
      · intro x
        rw [List.mem_append, h2]
        constructor
        · rintro (⟨j, hj, rfl⟩ | h)
          · exact ⟨j, by omega, rfl⟩
          · exact ⟨m, by omega, (List.mem_singleton.1 h).symm⟩
        · rintro ⟨j, hj, rfl⟩
          by_cases hjm : j = m
          · subst hjm
            right
            simp
          · exact .inl ⟨j, by omega, rfl⟩
    · rw [if_neg hk, List.append_nil]
      refine ⟨h1, fun x => ?_⟩
      rw [h2]
      constructor
      · rintro ⟨j, hj, rfl⟩
        exact ⟨j, by omega, rfl⟩
      · rintro ⟨j, hj, rfl⟩
        by_cases hjm : j = m
        · subst hjm
          simp only [Lib.keeps, decide_eq_true_eq, not_or, Classical.not_not] at hk
          exact ⟨j - 1, by omega, hk.2.symm⟩
        · exact ⟨j, by omega, rfl⟩
theorem compact_srt {zs : List Int} (h : zs.Pairwise (· ≤ ·)) : Srt (Lib.compact zs) ∧ ∀ x, x ∈ Lib.compact zs ↔ x ∈ zs := by
  have hg : ∀ i, i < zs.length → zs.toArray[i]! = zs.getD i 0 := fun i hi => by simp [Array.getElem!_eq_getD, List.getD_eq_getElem?_getD]
  have := compact_upto zs.toArray (fun i j hij hj => by
    have hj' : j < zs.length := by simpa using hj
    rw [hg i (by omega), hg j hj']
    rcases Nat.lt_or_ge i j with h1 | h1
    · have := List.pairwise_iff_getElem.1 h i j (by omega) hj' h1
      simpa [List.getD_eq_getElem?_getD, List.getElem?_eq_getElem hj', List.getElem?_eq_getElem (show i < zs.length by omega)] using this
    · have : i = j := by omega
      subst this
      exact Int.le_refl _) zs.length (by simp)
  refine ⟨this.1, fun x => ?_⟩
  unfold Lib.compact
  rw [this.2, List.mem_iff_getElem?]
  constructor
  · rintro ⟨j, hj, rfl⟩
    exact ⟨j, by rw [hg j hj, List.getElem?_eq_getElem hj]; simp [List.getD_eq_getElem?_getD, List.getElem?_eq_getElem hj]⟩
  · rintro ⟨j, hj⟩
    have hjl := (List.getElem?_eq_some_iff.1 hj).1
    exact ⟨j, hjl, by rw [hg j hjl]; simp [List.getD_eq_getElem?_getD, hj]⟩
/-- slices.Sort of []int. -/
def msort (zs : List Int) : List Int := zs.mergeSort fun x y => decide (x ≤ y)
theorem msort_le (zs : List Int) : (msort zs).Pairwise (· ≤ ·) :=
  (List.pairwise_mergeSort (le := fun x y : Int => decide (x ≤ y)) (fun a b c h1 h2 => by simp at *; omega) (fun a b => by simp; omega) zs).imp (by simp)
theorem msort_mem (zs : List Int) (x : Int) : x ∈ msort zs ↔ x ∈ zs := by simp [msort]
theorem msort_len (zs : List Int) : (msort zs).length = zs.length := by simp [msort]
def scomp (zs : List Int) : List Int := Lib.compact (msort zs)
theorem scomp_srt (zs : List Int) : Srt (scomp zs) := (compact_srt (msort_le zs)).1
theorem scomp_mem (zs : List Int) (x : Int) : x ∈ scomp zs ↔ x ∈ zs := ((compact_srt (msort_le zs)).2 x).trans (msort_mem zs x)
theorem msort_srt {zs : List Int} (h : zs.Nodup) : Srt (msort zs) := by
  have h1 := msort_le zs
  have h2 : (msort zs).Nodup := (List.mergeSort_perm zs _).nodup_iff.2 h
  exact List.pairwise_iff_getElem.2 fun i j hi hj hij => by
    have a := List.pairwise_iff_getElem.1 h1 i j hi hj hij
    have b := List.pairwise_iff_getElem.1 h2 i j hi hj hij
    omega

/-! The reference's way to put a number into a rising list. -/
def putS (n : Int) (s : List Int × Bool) (x : Int) : List Int × Bool :=
  let t := if !s.2 && decide (n < x) then (s.1 ++ [n], true) else s
  (t.1 ++ [x], t.2 || x == n)
def putP (n : Int) (l : List Int) : List Int × Bool := l.foldl (putS n) ([], false)
def putF (l : List Int) (n : Int) : List Int := if (putP n l).2 then (putP n l).1 else (putP n l).1 ++ [n]
theorem putP_snoc (n : Int) (l : List Int) (x : Int) : putP n (l ++ [x]) = putS n (putP n l) x := by simp [putP]
theorem putP_spec (n : Int) : ∀ l : List Int, Srt l → ((putP n l).2 = false → (putP n l).1 = l ∧ ∀ x, x ∈ l → x < n) ∧ ((putP n l).2 = true → Srt (putP n l).1 ∧ (∀ x, x ∈ (putP n l).1 ↔ x = n ∨ x ∈ l) ∧ ∃ y, y ∈ l ∧ n ≤ y) := by
  intro l
  induction hl : l.length generalizing l with
  | zero =>
    intro _
    obtain rfl := List.eq_nil_of_length_eq_zero hl
    simp [putP]
  | succ k ih =>
    intro hs
    obtain ⟨l0, x, rfl⟩ : ∃ l0 x, l = l0 ++ [x] := by
      rcases List.eq_nil_or_concat l with h | ⟨l0, x, h⟩
      · subst h; simp at hl
      · exact ⟨l0, x, by simpa using h⟩
    have hl0 : l0.length = k := by simpa using hl
    obtain ⟨hs0, _, hlt⟩ := List.pairwise_append.1 hs
    have hlx : ∀ y, y ∈ l0 → y < x := fun y hy => hlt y hy x (by simp)
    obtain ⟨i1, i2⟩ := ih l0 hl0 hs0
    rw [putP_snoc]
    cases hd : (putP n l0).2
    · obtain ⟨e1, e2⟩ := i1 hd
      by_cases hx : n < x
      · have hS : putS n (putP n l0) x = (l0 ++ [n] ++ [x], true) := by simp [putS, hd, hx, e1]
        rw [hS]
        refine ⟨by simp, fun _ => ⟨?_, ?_, x, by simp, by omega⟩⟩
        · refine List.pairwise_append.2 ⟨List.pairwise_append.2 ⟨hs0, by simp, fun y hy z hz => ?_⟩, by simp, fun y hy z hz => ?_⟩
          · obtain rfl : z = n := by simpa using hz
            exact e2 y hy
          · obtain rfl : z = x := by simpa using hz
            rcases List.mem_append.1 hy with h | h
            · exact hlx y h
            · obtain rfl : y = n := by simpa using h
              exact hx
        · intro y
          simp only [List.mem_append, List.mem_singleton]
          constructor
          · rintro ((h | h) | h) <;> simp [h]
          · rintro (h | h | h) <;> simp [h]
      · by_cases he : x = n
        · subst he
          have hS : putS x (putP x l0) x = (l0 ++ [x], true) := by simp [putS, hd, e1]
          rw [hS]
          refine ⟨by simp, fun _ => ⟨hs, fun y => ?_, x, by simp, Int.le_refl _⟩⟩
          simp only [List.mem_append, List.mem_singleton]
          constructor
          · rintro (h | h) <;> simp [h]
          · rintro (h | h | h) <;> simp [h]
        · have hS : putS n (putP n l0) x = (l0 ++ [x], false) := by simp [putS, hd, hx, e1, he]
          rw [hS]
          refine ⟨fun _ => ⟨rfl, fun y hy => ?_⟩, by simp⟩
          rcases List.mem_append.1 hy with h | h
          · exact e2 y h
          · obtain rfl : y = x := by simpa using h
            omega
    · obtain ⟨e1, e2, y0, hy0, hny⟩ := i2 hd
      have hS : putS n (putP n l0) x = ((putP n l0).1 ++ [x], true) := by simp [putS, hd]
      rw [hS]
      refine ⟨by simp, fun _ => ⟨?_, fun y => ?_, y0, by simp [hy0], hny⟩⟩
      · refine List.pairwise_append.2 ⟨e1, by simp, fun y hy z hz => ?_⟩
        obtain rfl : z = x := by simpa using hz
        rcases (e2 y).1 hy with h | h
        · subst h
          have := hlx y0 hy0
          omega
        · exact hlx y h
      · simp only [List.mem_append, List.mem_singleton, e2]
        constructor
        · rintro ((h | h) | h) <;> simp [h]
        · rintro (h | h | h) <;> simp [h]
theorem putF_srt {l : List Int} (h : Srt l) (n : Int) : Srt (putF l n) := by
  obtain ⟨h1, h2⟩ := putP_spec n l h
  unfold putF
  cases hd : (putP n l).2
  · obtain ⟨e1, e2⟩ := h1 hd
    simp only [Bool.false_eq_true, if_false, e1]
    exact List.pairwise_append.2 ⟨h, by simp, fun y hy z hz => by
      obtain rfl : z = n := by simpa using hz
      exact e2 y hy⟩
  · simp only [if_true]
    exact (h2 hd).1
theorem putF_mem {l : List Int} (h : Srt l) (n x : Int) : x ∈ putF l n ↔ x = n ∨ x ∈ l := by
  obtain ⟨h1, h2⟩ := putP_spec n l h
  unfold putF
  cases hd : (putP n l).2
  · simp only [Bool.false_eq_true, if_false, (h1 hd).1, List.mem_append, List.mem_singleton]
    exact Or.comm
  · simp only [if_true]
    exact (h2 hd).2.1 x
theorem putP_len (n : Int) : ∀ l : List Int, (putP n l).1.length ≤ l.length + 1 := by
  have key : ∀ l : List Int, (putP n l).1.length ≤ l.length + if (putP n l).2 then 1 else 0 := by
    intro l
    induction hl : l.length generalizing l with
    | zero =>
      obtain rfl := List.eq_nil_of_length_eq_zero hl
      simp [putP]
    | succ k ih =>
      obtain ⟨l0, x, rfl⟩ : ∃ l0 x, l = l0 ++ [x] := by
        rcases List.eq_nil_or_concat l with h | ⟨l0, x, h⟩
        · subst h; simp at hl
        · exact ⟨l0, x, by simpa using h⟩
      have := ih l0 (by simpa using hl)
      rw [putP_snoc]
      unfold putS
      cases hd : (putP n l0).2 <;> simp only [hd, Bool.false_eq_true, if_false, if_true, Bool.not_false, Bool.not_true, Bool.true_and, Bool.false_and, Bool.true_or] at this ⊢
      · by_cases hx : n < x
        · simp [hx]; simp at hl; omega
        · simp [hx]; simp at hl
          split <;> omega
      · simp; simp at hl; omega
  intro l
  have := key l
  split at this <;> omega
theorem putF_len (l : List Int) (n : Int) : (putF l n).length ≤ l.length + 2 := by
  have := putP_len n l
  unfold putF
  split
  · omega
  · simp
    omega

/-! What can be come to. -/
inductive Rch (c : Int → List Int) (a : Int) : Int → Prop
  | refl : Rch c a a
  | step {b x : Int} : Rch c a b → x ∈ c b → Rch c a x
theorem Rch.trans {c : Int → List Int} {a b d : Int} (h : Rch c a b) (k : Rch c b d) : Rch c a d := by
  induction k with
  | refl => exact h
  | step _ hx ih => exact ih.step hx
/-- A set that has the first one and all that one of it calls has all that can be come to. -/
theorem rch_closed {c : Int → List Int} {a : Int} {S : Int → Prop} (h0 : S a) (hs : ∀ b x, S b → x ∈ c b → S x) {d : Int} (h : Rch c a d) : S d := by
  induction h with
  | refl => exact h0
  | step _ hx ih => exact hs _ _ ih hx
theorem rch_bd {c : Int → List Int} {n : Nat} (hc : ∀ k x, x ∈ c k → 0 ≤ x ∧ x < n) {a d : Int} (ha : 0 ≤ a ∧ a < n) (h : Rch c a d) : 0 ≤ d ∧ d < n :=
  rch_closed (S := fun d => 0 ≤ d ∧ d < n) ha (fun _ x _ hx => hc _ x hx) h
/-- Rising numbers below n are n at most. -/
theorem srt_len : ∀ (n : Nat) (l : List Int), l.Nodup → (∀ x, x ∈ l → 0 ≤ x ∧ x < n) → l.length ≤ n
  | 0, [], _, _ => Nat.le_refl _
  | 0, x :: xs, _, h => by have := h x (by simp); omega
  | n + 1, l, hd, h => by
    have h1 := srt_len n (l.erase n) (hd.erase _) (fun x hx => by
      have h1 := h x (List.mem_of_mem_erase hx)
      have h2 : x ≠ (n : Int) := fun e => by subst e; exact absurd hx (by rw [hd.mem_erase_iff]; simp)
      omega)
    have h2 : l.length ≤ (l.erase (n : Int)).length + 1 := by
      rw [List.length_erase]
      split <;> omega
    omega
theorem nodup_sub : ∀ (a b : List Int), a.Nodup → (∀ x, x ∈ a → x ∈ b) → a.length ≤ b.length
  | [], _, _, _ => Nat.zero_le _
  | x :: xs, b, hd, h => by
    obtain ⟨hx, hd⟩ := List.nodup_cons.1 hd
    have hb := h x (by simp)
    have := nodup_sub xs (b.erase x) hd (fun y hy => (List.mem_erase_of_ne (by rintro rfl; exact hx hy)).2 (h y (by simp [hy])))
    rw [List.length_erase_of_mem hb] at this
    have := List.length_pos_of_mem hb
    simp
    omega
theorem nodup_all {a b : List Int} (hd : a.Nodup) (h : ∀ x, x ∈ a → x ∈ b) (hl : b.length ≤ a.length) {z : Int} (hz : z ∈ b) : z ∈ a := by
  refine Classical.byContradiction fun hn => ?_
  have := nodup_sub (z :: a) b (List.nodup_cons.2 ⟨hn, hd⟩) (fun y hy => by
    rcases List.mem_cons.1 hy with rfl | hy
    · exact hz
    · exact h y hy)
  simp at this
  omega
theorem srt_nodup {l : List Int} (h : Srt l) : l.Nodup := h.imp (fun h => by omega)

/-- A round of the reference's search. -/
def putA (l ns : List Int) : List Int := ns.foldl putF l
def roundA (c : Int → List Int) (out seen : List Int) : List Int := seen.foldl (fun acc i => putA acc (c i)) out
def iterA (c : Int → List Int) : Nat → List Int → List Int
  | 0, l => l
  | n + 1, l => iterA c n (roundA c l l)
def reachL (c : Int → List Int) (n : Nat) (a : Int) : List Int := iterA c n [a]
theorem iterA_succ (c : Int → List Int) : ∀ (n : Nat) (l : List Int), iterA c (n + 1) l = roundA c (iterA c n l) (iterA c n l)
  | 0, _ => rfl
  | n + 1, l => by rw [iterA, iterA_succ c n]; rfl
theorem putA_snoc (l ns : List Int) (x : Int) : putA l (ns ++ [x]) = putF (putA l ns) x := by simp [putA]
theorem roundA_snoc (c : Int → List Int) (out seen : List Int) (x : Int) : roundA c out (seen ++ [x]) = putA (roundA c out seen) (c x) := by simp [roundA]
theorem putA_spec : ∀ (ns l : List Int), Srt l → Srt (putA l ns) ∧ ∀ x, x ∈ putA l ns ↔ x ∈ l ∨ x ∈ ns
  | [], l, h => ⟨h, fun x => by simp [putA]⟩
  | n :: ns, l, h => by
    obtain ⟨h1, h2⟩ := putA_spec ns (putF l n) (putF_srt h n)
    refine ⟨h1, fun x => ?_⟩
    rw [show putA l (n :: ns) = putA (putF l n) ns from rfl, h2, putF_mem h]
    simp only [List.mem_cons]
    constructor
    · rintro ((h | h) | h) <;> simp [h]
    · rintro (h | h | h) <;> simp [h]
theorem roundA_spec (c : Int → List Int) : ∀ (seen out : List Int), Srt out → Srt (roundA c out seen) ∧ ∀ x, x ∈ roundA c out seen ↔ x ∈ out ∨ ∃ i, i ∈ seen ∧ x ∈ c i
  | [], out, h => ⟨h, fun x => by simp [roundA]⟩
  | i :: seen, out, h => by
    obtain ⟨p1, p2⟩ := putA_spec (c i) out h
    obtain ⟨h1, h2⟩ := roundA_spec c seen (putA out (c i)) p1
    refine ⟨h1, fun x => ?_⟩
    rw [show roundA c out (i :: seen) = roundA c (putA out (c i)) seen from rfl, h2, p2]
    constructor
    · rintro ((h | h) | ⟨j, hj, hx⟩)
      · exact .inl h
      · exact .inr ⟨i, by simp, h⟩
      · exact .inr ⟨j, by simp [hj], hx⟩
    · rintro (h | ⟨j, hj, hx⟩)
      · exact .inl (.inl h)
      · rcases List.mem_cons.1 hj with rfl | hj
        · exact .inl (.inr hx)
        · exact .inr ⟨j, hj, hx⟩
theorem iterA_inv (c : Int → List Int) (a : Int) : ∀ n : Nat, Srt (iterA c n [a]) ∧ a ∈ iterA c n [a] ∧ ∀ x, x ∈ iterA c n [a] → Rch c a x
  | 0 => ⟨by simp [iterA], by simp [iterA], fun x h => by
    obtain rfl : x = a := by simpa [iterA] using h
    exact Rch.refl⟩
  | n + 1 => by
    obtain ⟨h1, h2, h3⟩ := iterA_inv c a n
    obtain ⟨r1, r2⟩ := roundA_spec c (iterA c n [a]) _ h1
    rw [iterA_succ]
    refine ⟨r1, (r2 a).2 (.inl h2), fun x hx => ?_⟩
    rcases (r2 x).1 hx with h | ⟨i, hi, hx⟩
    · exact h3 x h
    · exact (h3 i hi).step hx
theorem iterA_grow (c : Int → List Int) (a : Int) : ∀ n : Nat, n + 1 ≤ (iterA c n [a]).length ∨ (∀ i x, i ∈ iterA c n [a] → x ∈ c i → x ∈ iterA c n [a])
  | 0 => .inl (by simp [iterA])
  | n + 1 => by
    obtain ⟨h1, h2, h3⟩ := iterA_inv c a n
    obtain ⟨r1, r2⟩ := roundA_spec c (iterA c n [a]) _ h1
    rw [iterA_succ]
    by_cases hcl : ∀ i x, i ∈ iterA c n [a] → x ∈ c i → x ∈ iterA c n [a]
    · right
      have e : roundA c (iterA c n [a]) (iterA c n [a]) = iterA c n [a] := srt_ext r1 h1 fun x => by
        rw [r2]
        constructor
        · rintro (h | ⟨i, hi, hx⟩)
          · exact h
          · exact hcl i x hi hx
        · exact .inl
      rw [e]
      exact hcl
    · left
      rcases iterA_grow c a n with h | h
      · have : (iterA c n [a]).length < (roundA c (iterA c n [a]) (iterA c n [a])).length := by
          refine Nat.lt_of_not_le fun hle => hcl fun i x hi hx => ?_
          exact nodup_all (srt_nodup h1) (fun y hy => (r2 y).2 (.inl hy)) hle ((r2 x).2 (.inr ⟨i, hi, hx⟩))
        omega
      · exact absurd h hcl
/-- GrfReach: what can be come to, rising. -/
theorem reachL_spec {c : Int → List Int} {n : Nat} (hc : ∀ k x, x ∈ c k → 0 ≤ x ∧ x < n) {a : Int} (ha : 0 ≤ a ∧ a < n) : Srt (reachL c n a) ∧ ∀ x, x ∈ reachL c n a ↔ Rch c a x := by
  obtain ⟨h1, h2, h3⟩ := iterA_inv c a n
  refine ⟨h1, fun x => ⟨h3 x, fun h => ?_⟩⟩
  rcases iterA_grow c a n with hl | hcl
  · have := srt_len n _ (srt_nodup h1) (fun x hx => rch_bd hc ha (h3 x hx))
    omega
  · exact rch_closed (S := fun d => d ∈ iterA c n [a]) h2 (fun b x hb hx => hcl b x hb hx) h

/-! The program's search: a stack, and what has been seen. 'rem': what is still to be looked at of the last one. -/
structure Dfs (c : Int → List Int) (a : Int) (pre st sn rem : List Int) : Prop where
  mem : ∀ x, x ∈ sn ↔ x ∈ pre ∨ x ∈ st
  nd : (pre ++ st).Nodup
  rch : ∀ x, x ∈ sn ∨ x ∈ rem → Rch c a x
  a0 : a ∈ sn
  cl : ∀ x y, x ∈ pre → y ∈ c x → y ∈ sn ∨ y ∈ rem
section
variable {c : Int → List Int} {a x y : Int} {pre st sn rem : List Int}
theorem Dfs.start (c : Int → List Int) (a : Int) : Dfs c a [] [a] [a] [] :=
  ⟨fun x => by simp, by simp, fun x h => by
    obtain rfl : x = a := by simpa using h
    exact Rch.refl, by simp, fun x y h => by simp at h⟩
theorem Dfs.pop (h : Dfs c a pre (st ++ [x]) sn []) : Dfs c a (pre ++ [x]) st sn (c x) := by
  have hx : x ∈ sn := (h.mem x).2 (by simp)
  refine ⟨fun y => ?_, ?_, fun y hy => ?_, h.a0, fun z y hz hy => ?_⟩
  · rw [h.mem]
    simp only [List.mem_append, List.mem_singleton]
    constructor
    · rintro (h | h | h) <;> simp [h]
    · rintro ((h | h) | h) <;> simp [h]
  · have hp : (pre ++ (st ++ [x])).Perm (pre ++ [x] ++ st) := by
      rw [List.append_assoc]
      exact List.Perm.append_left _ List.perm_append_comm
    exact hp.nodup_iff.1 h.nd
  · rcases hy with hy | hy
    · exact h.rch y (.inl hy)
    · exact (h.rch x (.inl hx)).step hy
  · rcases List.mem_append.1 hz with hz | hz
    · rcases h.cl z y hz hy with h | h
      · exact .inl h
      · cases h
    · obtain rfl : z = x := by simpa using hz
      exact .inr hy
theorem Dfs.seen (h : Dfs c a pre st sn (y :: rem)) (hy : y ∈ sn) : Dfs c a pre st sn rem :=
  ⟨h.mem, h.nd, fun z hz => h.rch z (hz.imp id (by simp +contextual)), h.a0, fun z x hz hx => by
    rcases h.cl z x hz hx with h | h
    · exact .inl h
    · rcases List.mem_cons.1 h with rfl | h
      · exact .inl hy
      · exact .inr h⟩
theorem Dfs.push (h : Dfs c a pre st sn (y :: rem)) (hy : ¬ y ∈ sn) : Dfs c a pre (st ++ [y]) (y :: sn) rem := by
  refine ⟨fun z => ?_, ?_, fun z hz => ?_, by simp [h.a0], fun z x hz hx => ?_⟩
  · simp only [List.mem_cons, List.mem_append, h.mem z, List.not_mem_nil, or_false]
    constructor
    · rintro (h | h | h) <;> simp [h]
    · rintro (h | h | h) <;> simp [h]
  · rw [← List.append_assoc]
    refine List.nodup_append.2 ⟨h.nd, by simp, fun z hz w hw => ?_⟩
    obtain rfl : w = y := by simpa using hw
    rintro rfl
    exact hy ((h.mem z).2 (by simpa using hz))
  · rcases hz with hz | hz
    · rcases List.mem_cons.1 hz with rfl | hz
      · exact h.rch z (.inr (by simp))
      · exact h.rch z (.inl hz)
    · exact h.rch z (.inr (by simp [hz]))
  · rcases h.cl z x hz hx with h | h
    · exact .inl (by simp [h])
    · rcases List.mem_cons.1 h with rfl | h
      · exact .inl (by simp)
      · exact .inr h
theorem Dfs.done (h : Dfs c a pre [] sn []) : pre.Nodup ∧ ∀ x, x ∈ pre ↔ Rch c a x := by
  have hm : ∀ x, x ∈ sn ↔ x ∈ pre := fun x => by rw [h.mem]; simp
  refine ⟨by simpa using h.nd, fun x => ⟨fun hx => h.rch x (.inl ((hm x).2 hx)), fun hx => ?_⟩⟩
  exact rch_closed (S := fun x => x ∈ pre) ((hm a).1 h.a0) (fun b z hb hz => (hm z).1 ((h.cl b z hb hz).resolve_right (by simp))) hx
theorem Dfs.len {n : Nat} (hc : ∀ k x, x ∈ c k → 0 ≤ x ∧ x < n) (ha : 0 ≤ a ∧ a < n) (h : Dfs c a pre st sn rem) : pre.length + st.length ≤ n := by
  have := srt_len n (pre ++ st) h.nd (fun x hx => rch_bd hc ha (h.rch x (.inl ((h.mem x).2 (by simpa using hx)))))
  simpa using this
theorem Dfs.bd {n : Nat} (hc : ∀ k x, x ∈ c k → 0 ≤ x ∧ x < n) (ha : 0 ≤ a ∧ a < n) (h : Dfs c a pre st sn rem) (hx : x ∈ pre ∨ x ∈ st ∨ x ∈ rem) : 0 ≤ x ∧ x < n := by
  refine rch_bd hc ha (h.rch x ?_)
  rcases hx with hx | hx | hx
  · exact .inl ((h.mem x).2 (.inl hx))
  · exact .inl ((h.mem x).2 (.inr hx))
  · exact .inr hx
end
theorem reach_of_dfs {c : Int → List Int} {n : Nat} (hc : ∀ k x, x ∈ c k → 0 ≤ x ∧ x < n) {a : Int} (ha : 0 ≤ a ∧ a < n) {pre : List Int} (h : pre.Nodup ∧ ∀ x, x ∈ pre ↔ Rch c a x) : msort pre = reachL c n a := by
  obtain ⟨h1, h2⟩ := reachL_spec hc ha
  exact srt_ext (msort_srt h.1) h1 fun x => by rw [msort_mem, h.2, h2]

/-! Parts. -/
def partL (c : Int → List Int) (n : Nat) (a : Int) : List Int := (reachL c n a).filter fun o => decide (a ∈ reachL c n o)
def firstB (c : Int → List Int) (n : Nat) (a : Int) : Bool := (partL c n a).headD (-1) == a
def partsP (c : Int → List Int) (n : Nat) (l : List Int) : List (List Int) := (l.filter (firstB c n)).map (partL c n)
def partsL (c : Int → List Int) (n : Nat) : List (List Int) := partsP c n (reachL c n 0)
section
variable {c : Int → List Int} {n : Nat} (hc : ∀ k x, x ∈ c k → 0 ≤ x ∧ x < n) {a b : Int}
include hc
theorem part_srt (ha : 0 ≤ a ∧ a < n) : Srt (partL c n a) := (reachL_spec hc ha).1.filter _
theorem part_mem (ha : 0 ≤ a ∧ a < n) (x : Int) : x ∈ partL c n a ↔ Rch c a x ∧ Rch c x a := by
  unfold partL
  rw [List.mem_filter, (reachL_spec hc ha).2]
  constructor
  · rintro ⟨h1, h2⟩
    exact ⟨h1, ((reachL_spec hc (rch_bd hc ha h1)).2 a).1 (by simpa using h2)⟩
  · rintro ⟨h1, h2⟩
    exact ⟨h1, by simpa using ((reachL_spec hc (rch_bd hc ha h1)).2 a).2 h2⟩
theorem part_self (ha : 0 ≤ a ∧ a < n) : a ∈ partL c n a := (part_mem hc ha a).2 ⟨Rch.refl, Rch.refl⟩
theorem part_eq (ha : 0 ≤ a ∧ a < n) (hb : b ∈ partL c n a) : partL c n b = partL c n a := by
  obtain ⟨h1, h2⟩ := (part_mem hc ha b).1 hb
  have hbb := rch_bd hc ha h1
  refine srt_ext (part_srt hc hbb) (part_srt hc ha) fun x => ?_
  rw [part_mem hc hbb, part_mem hc ha]
  exact ⟨fun ⟨k1, k2⟩ => ⟨h1.trans k1, k2.trans h2⟩, fun ⟨k1, k2⟩ => ⟨h2.trans k1, k2.trans h1⟩⟩
theorem part_head (ha : 0 ≤ a ∧ a < n) : ∃ h t, partL c n a = h :: t ∧ h ≤ a ∧ (firstB c n a = true ↔ h = a) := by
  have hs := part_self hc ha
  have hr := part_srt hc ha
  cases hp : partL c n a with
  | nil => rw [hp] at hs; cases hs
  | cons h t =>
    refine ⟨h, t, rfl, ?_, by simp [firstB, hp]⟩
    rw [hp] at hs hr
    rcases List.mem_cons.1 hs with e | e
    · omega
    · have := (List.pairwise_cons.1 hr).1 a e
      omega
/-- A procedure lies in a part that was found just if it does not begin its own. -/
theorem parts_seen {l r : List Int} (hn : 0 < n) (hl : reachL c n 0 = l ++ a :: r) : (∃ q, q ∈ partsP c n l ∧ a ∈ q) ↔ firstB c n a = false := by
  obtain ⟨hs, hm⟩ := reachL_spec hc (a := 0) ⟨by omega, by omega⟩
  have hbd : ∀ x, x ∈ reachL c n 0 → 0 ≤ x ∧ x < n := fun x hx => rch_bd hc ⟨by omega, by omega⟩ ((hm x).1 hx)
  rw [hl] at hs hbd
  have ha := hbd a (by simp)
  obtain ⟨_, hs2, hlt⟩ := List.pairwise_append.1 hs
  constructor
  · rintro ⟨q, hq, haq⟩
    obtain ⟨b, hb, rfl⟩ := List.mem_map.1 hq
    obtain ⟨hb1, hb2⟩ := List.mem_filter.1 hb
    have hbb := hbd b (by simp [hb1])
    have he := part_eq hc hbb haq
    obtain ⟨h, t, hp, hle, hiff⟩ := part_head hc hbb
    obtain rfl := hiff.1 hb2
    obtain ⟨h2, t2, hp2, hle2, hiff2⟩ := part_head hc ha
    have hba := hlt h hb1 a (by simp)
    rw [he, hp] at hp2
    simp only [List.cons.injEq] at hp2
    cases hh : firstB c n a
    · rfl
    · have := hiff2.1 hh
      omega
  · intro hh
    obtain ⟨h, t, hp, hle, hiff⟩ := part_head hc ha
    have hne : h ≠ a := fun e => by rw [hiff.2 e] at hh; cases hh
    have hmem : h ∈ partL c n a := by rw [hp]; simp
    obtain ⟨k1, k2⟩ := (part_mem hc ha h).1 hmem
    have hrh : h ∈ l ++ a :: r := by
      rw [← hl, hm]
      exact ((hm a).1 (by rw [hl]; simp)).trans k1
    have hhl : h ∈ l := by
      rcases List.mem_append.1 hrh with e | e
      · exact e
      · rcases List.mem_cons.1 e with e | e
        · exact absurd e hne
        · have := (List.pairwise_cons.1 hs2).1 h e
          omega
    have hbb := hbd h (by simp [hhl])
    have he := part_eq hc ha hmem
    refine ⟨partL c n h, List.mem_map.2 ⟨h, List.mem_filter.2 ⟨hhl, ?_⟩, rfl⟩, by rw [he]; exact part_self hc ha⟩
    rw [firstB, he, hp]
    simp
/-- All that can be come to lies in a part. -/
theorem parts_cover (hn : 0 < n) {x : Int} (hx : x ∈ reachL c n 0) : ∃ q, q ∈ partsL c n ∧ x ∈ q := by
  obtain ⟨l, r, hl⟩ := List.append_of_mem hx
  cases hh : firstB c n x
  · obtain ⟨q, hq, hxq⟩ := (parts_seen hc hn hl).2 hh
    refine ⟨q, ?_, hxq⟩
    unfold partsL
    rw [hl]
    unfold partsP at hq ⊢
    rw [List.filter_append, List.map_append]
    exact List.mem_append_left _ hq
  · have hb := rch_bd hc ⟨by omega, by omega⟩ (((reachL_spec hc (a := 0) ⟨by omega, by omega⟩).2 x).1 hx)
    exact ⟨partL c n x, List.mem_map.2 ⟨x, List.mem_filter.2 ⟨hx, hh⟩, rfl⟩, part_self hc hb⟩
omit hc in
theorem partsP_snoc (l : List Int) (a : Int) : partsP c n (l ++ [a]) = partsP c n l ++ if firstB c n a then [partL c n a] else [] := by
  unfold partsP
  rw [List.filter_append, List.map_append]
  congr 1
  cases h : firstB c n a <;> simp [h]
end

/-! What a part needs. -/
def headsL (c : Int → List Int) (n : Nat) : List Int := (reachL c n 0).filter (firstB c n)
theorem parts_len (c : Int → List Int) (n : Nat) : (partsL c n).length = (headsL c n).length := by simp [partsL, partsP, headsL]
theorem parts_get (c : Int → List Int) (n : Nat) {k : Nat} (hk : k < (partsL c n).length) : (partsL c n).getD k [] = partL c n ((headsL c n).getD k 0) := by
  have hk' : k < (headsL c n).length := by rw [← parts_len]; exact hk
  simp only [partsL, partsP, List.getD_eq_getElem?_getD, List.getElem?_map]
  rw [show List.filter (firstB c n) (reachL c n 0) = headsL c n from rfl, List.getElem?_eq_getElem hk']
  rfl
def ofL (parts : List (List Int)) (x : Int) : Int := match parts.findIdx? (fun q => decide (x ∈ q)) with | some k => k | none => -1
def needP (parts : List (List Int)) (k : Int) (out : List Int) (y : Int) : List Int := if ofL parts y ≠ k then putF out (ofL parts y) else out
def needsS (c : Int → List Int) (parts : List (List Int)) (k : Nat) : List Int := (parts.getD k []).foldl (fun out i => (c i).foldl (needP parts k) out) []
def needB (c : Int → List Int) (parts : List (List Int)) (k o : Nat) : Bool := (parts.getD k []).any fun i => (c i).any fun y => decide (y ∈ parts.getD o [])
def needsI (c : Int → List Int) (parts : List (List Int)) (k : Nat) : List Int := ((List.range parts.length).filter fun o => o != k && needB c parts k o).map fun o : Nat => (o : Int)
theorem needP_spec (parts : List (List Int)) (k : Int) : ∀ (ys out : List Int), Srt out → Srt (ys.foldl (needP parts k) out) ∧ ∀ x, x ∈ ys.foldl (needP parts k) out ↔ x ∈ out ∨ ∃ y, y ∈ ys ∧ ofL parts y = x ∧ x ≠ k
  | [], out, h => ⟨h, by simp⟩
  | y :: ys, out, h => by
    have h1 : Srt (needP parts k out y) ∧ ∀ x, x ∈ needP parts k out y ↔ x ∈ out ∨ (ofL parts y = x ∧ x ≠ k) := by
      unfold needP
      by_cases hk : ofL parts y ≠ k
      · rw [if_pos hk]
        refine ⟨putF_srt h _, fun x => ?_⟩
        rw [putF_mem h]
        constructor
        · rintro (rfl | h)
          · exact .inr ⟨rfl, hk⟩
          · exact .inl h
        · rintro (h | ⟨h, _⟩)
          · exact .inr h
          · exact .inl h.symm
      · rw [if_neg hk]
        refine ⟨h, fun x => ⟨.inl, ?_⟩⟩
        rintro (h | ⟨h, h2⟩)
        · exact h
        · exact absurd (by rw [h]; exact h2) hk
    obtain ⟨h2, h3⟩ := needP_spec parts k ys _ h1.1
    refine ⟨h2, fun x => ?_⟩
    rw [List.foldl_cons, h3, h1.2]
    constructor
    · rintro ((h | ⟨h, h'⟩) | ⟨z, hz, h⟩)
      · exact .inl h
      · exact .inr ⟨y, by simp, h, h'⟩
      · exact .inr ⟨z, by simp [hz], h⟩
    · rintro (h | ⟨z, hz, h⟩)
      · exact .inl (.inl h)
      · rcases List.mem_cons.1 hz with rfl | hz
        · exact .inl (.inr h)
        · exact .inr ⟨z, hz, h⟩
theorem needsS_spec (c : Int → List Int) (parts : List (List Int)) (k : Int) : ∀ (is out : List Int), Srt out → Srt (is.foldl (fun out i => (c i).foldl (needP parts k) out) out) ∧ ∀ x, x ∈ is.foldl (fun out i => (c i).foldl (needP parts k) out) out ↔ x ∈ out ∨ ∃ i y, i ∈ is ∧ y ∈ c i ∧ ofL parts y = x ∧ x ≠ k
  | [], out, h => ⟨h, by simp⟩
  | i :: is, out, h => by
    obtain ⟨h1, h2⟩ := needP_spec parts k (c i) out h
    obtain ⟨h3, h4⟩ := needsS_spec c parts k is _ h1
    refine ⟨h3, fun x => ?_⟩
    rw [List.foldl_cons, h4, h2]
    constructor
    · rintro ((h | ⟨y, hy, h⟩) | ⟨j, y, hj, hy, h⟩)
      · exact .inl h
      · exact .inr ⟨i, y, by simp, hy, h⟩
      · exact .inr ⟨j, y, by simp [hj], hy, h⟩
    · rintro (h | ⟨j, y, hj, hy, h⟩)
      · exact .inl (.inl h)
      · rcases List.mem_cons.1 hj with rfl | hj
        · exact .inl (.inr ⟨y, hy, h⟩)
        · exact .inr ⟨j, y, hj, hy, h⟩
theorem needsI_mem (c : Int → List Int) (parts : List (List Int)) (k : Nat) (x : Int) : x ∈ needsI c parts k ↔ ∃ o : Nat, x = o ∧ o < parts.length ∧ o ≠ k ∧ needB c parts k o = true := by
  simp only [needsI, List.mem_map, List.mem_filter, List.mem_range, Bool.and_eq_true, bne_iff_ne]
  constructor
  · rintro ⟨o, ⟨h1, h2, h3⟩, rfl⟩
    exact ⟨o, rfl, h1, h2, h3⟩
  · rintro ⟨o, rfl, h1, h2, h3⟩
    exact ⟨o, ⟨h1, h2, h3⟩, rfl⟩
theorem range_srt (n : Nat) (p : Nat → Bool) : Srt (((List.range n).filter p).map fun o : Nat => (o : Int)) := by
  refine List.pairwise_map.2 ((List.Pairwise.filter _ List.pairwise_lt_range).imp ?_)
  intro a b h
  omega
section
variable {c : Int → List Int} {n : Nat} (hc : ∀ k x, x ∈ c k → 0 ≤ x ∧ x < n) (hn : 0 < n)
include hc hn
omit hc hn in
theorem heads_get {k : Nat} (hk : k < (partsL c n).length) : (headsL c n).getD k 0 ∈ headsL c n := by
  have hk' : k < (headsL c n).length := by rw [← parts_len]; exact hk
  rw [List.getD_eq_getElem?_getD, List.getElem?_eq_getElem hk']
  simp
theorem heads_rch {x : Int} (hx : x ∈ headsL c n) : Rch c 0 x ∧ (0 ≤ x ∧ x < n) ∧ firstB c n x = true := by
  obtain ⟨h1, h2⟩ := List.mem_filter.1 hx
  have h3 := ((reachL_spec hc (a := 0) ⟨by omega, by omega⟩).2 x).1 h1
  exact ⟨h3, rch_bd hc ⟨by omega, by omega⟩ h3, h2⟩
theorem parts_mem {k : Nat} (hk : k < (partsL c n).length) (x : Int) : x ∈ (partsL c n).getD k [] ↔ Rch c ((headsL c n).getD k 0) x ∧ Rch c x ((headsL c n).getD k 0) := by
  rw [parts_get c n hk, part_mem hc (heads_rch hc hn (heads_get hk)).2.1]
/-- No procedure is in two parts. -/
theorem parts_one {i j : Nat} (hi : i < (partsL c n).length) (hj : j < (partsL c n).length) {x : Int} (h1 : x ∈ (partsL c n).getD i []) (h2 : x ∈ (partsL c n).getD j []) : i = j := by
  obtain ⟨_, a2, a3⟩ := heads_rch hc hn (heads_get hi)
  obtain ⟨_, b2, b3⟩ := heads_rch hc hn (heads_get hj)
  rw [parts_get c n hi] at h1
  rw [parts_get c n hj] at h2
  have e := (part_eq hc a2 h1).symm.trans (part_eq hc b2 h2)
  obtain ⟨h, t, hp, _, hf⟩ := part_head hc a2
  obtain ⟨h', t', hp', _, hf'⟩ := part_head hc b2
  have e1 := hf.1 a3
  have e2 := hf'.1 b3
  rw [e, hp'] at hp
  simp only [List.cons.injEq] at hp
  have e3 : (headsL c n).getD i 0 = (headsL c n).getD j 0 := by rw [← e1, ← e2, hp.1]
  have hs : Srt (headsL c n) := (reachL_spec hc (a := 0) ⟨by omega, by omega⟩).1.filter _
  have li : i < (headsL c n).length := by rw [← parts_len]; exact hi
  have lj : j < (headsL c n).length := by rw [← parts_len]; exact hj
  rw [List.getD_eq_getElem?_getD, List.getD_eq_getElem?_getD, List.getElem?_eq_getElem li, List.getElem?_eq_getElem lj] at e3
  simp only [Option.getD_some] at e3
  rcases Nat.lt_trichotomy i j with h | h | h
  · have := List.pairwise_iff_getElem.1 hs i j li lj h
    omega
  · exact h
  · have := List.pairwise_iff_getElem.1 hs j i lj li h
    omega
theorem ofL_spec {o : Nat} (ho : o < (partsL c n).length) {y : Int} (hy : y ∈ (partsL c n).getD o []) : ofL (partsL c n) y = o := by
  unfold ofL
  cases h : (partsL c n).findIdx? (fun q => decide (y ∈ q)) with
  | none =>
    rw [List.findIdx?_eq_none_iff] at h
    have := h ((partsL c n)[o]) (by simp)
    rw [List.getD_eq_getElem?_getD, List.getElem?_eq_getElem ho] at hy
    simp only [Option.getD_some] at hy
    simp [hy] at this
  | some k =>
    rw [List.findIdx?_eq_some_iff_getElem] at h
    obtain ⟨hk, h1, _⟩ := h
    have := parts_one hc hn hk ho (x := y) (by rw [List.getD_eq_getElem?_getD, List.getElem?_eq_getElem hk]; simpa using h1) hy
    subst this
    rfl
theorem call_part {k : Nat} (hk : k < (partsL c n).length) {i y : Int} (hi : i ∈ (partsL c n).getD k []) (hy : y ∈ c i) : ∃ o, o < (partsL c n).length ∧ y ∈ (partsL c n).getD o [] := by
  have h1 := ((parts_mem hc hn hk i).1 hi).1
  have h0 := (heads_rch hc hn (heads_get hk)).1
  obtain ⟨q, hq, hyq⟩ := parts_cover hc hn (((reachL_spec hc (a := 0) ⟨by omega, by omega⟩).2 y).2 ((h0.trans h1).step hy))
  obtain ⟨o, ho, rfl⟩ := List.mem_iff_getElem.1 hq
  exact ⟨o, ho, by rw [List.getD_eq_getElem?_getD, List.getElem?_eq_getElem ho]; exact hyq⟩
theorem needs_eq {k : Nat} (hk : k < (partsL c n).length) : needsS c (partsL c n) k = needsI c (partsL c n) k := by
  obtain ⟨h1, h2⟩ := needsS_spec c (partsL c n) k ((partsL c n).getD k []) [] List.Pairwise.nil
  refine srt_ext h1 (range_srt _ _) fun x => ?_
  rw [needsI_mem]
  refine (h2 x).trans ?_
  simp only [List.not_mem_nil, false_or, needB, List.any_eq_true, decide_eq_true_eq]
  constructor
  · rintro ⟨i, y, hi, hy, rfl, hne⟩
    obtain ⟨o, ho, hyo⟩ := call_part hc hn hk hi hy
    have e := ofL_spec hc hn ho hyo
    rw [e] at hne ⊢
    exact ⟨o, rfl, ho, fun e => hne (by rw [e]), i, hi, y, hy, hyo⟩
  · rintro ⟨o, rfl, ho, hne, i, hi, y, hy, hyo⟩
    exact ⟨i, y, hi, hy, ofL_spec hc hn ho hyo, fun e => hne (by omega)⟩
/-- What a part needs can be come to from it, and never comes to it. -/
theorem needs_rch {k o : Nat} (hk : k < (partsL c n).length) (ho : (o : Int) ∈ needsI c (partsL c n) k) : o < (partsL c n).length ∧ o ≠ k ∧ Rch c ((headsL c n).getD k 0) ((headsL c n).getD o 0) ∧ ¬ Rch c ((headsL c n).getD o 0) ((headsL c n).getD k 0) := by
  obtain ⟨o', e, ho, hne, hB⟩ := (needsI_mem _ _ _ _).1 ho
  obtain rfl : o = o' := by omega
  simp only [needB, List.any_eq_true, decide_eq_true_eq] at hB
  obtain ⟨i, hi, y, hy, hyo⟩ := hB
  obtain ⟨i1, i2⟩ := (parts_mem hc hn hk i).1 hi
  obtain ⟨y1, y2⟩ := (parts_mem hc hn ho y).1 hyo
  have h1 : Rch c ((headsL c n).getD k 0) ((headsL c n).getD o 0) := (i1.step hy).trans y2
  refine ⟨ho, hne, h1, fun hr => hne (parts_one hc hn ho hk (x := y) hyo ?_)⟩
  exact (parts_mem hc hn hk y).2 ⟨i1.step hy, y2.trans hr⟩
theorem needs_less {k o : Nat} (hk : k < (partsL c n).length) (ho : (o : Int) ∈ needsI c (partsL c n) k) : (reachL c n ((headsL c n).getD o 0)).length < (reachL c n ((headsL c n).getD k 0)).length := by
  obtain ⟨h1, _, h3, h4⟩ := needs_rch hc hn hk ho
  have bk := (heads_rch hc hn (heads_get hk)).2.1
  have bo := (heads_rch hc hn (heads_get h1)).2.1
  obtain ⟨rk1, rk2⟩ := reachL_spec hc bk
  obtain ⟨ro1, ro2⟩ := reachL_spec hc bo
  refine Nat.lt_of_not_le fun hle => h4 ((ro2 _).1 (nodup_all (srt_nodup ro1) (fun x hx => (rk2 x).2 (h3.trans ((ro2 x).1 hx))) hle ((rk2 _).2 Rch.refl)))
end

/-! What is ready; the order. -/
def metB (c : Int → List Int) (parts : List (List Int)) (done : List Bool) (k : Nat) : Bool := (needsI c parts k).all fun m => done.getD m.toNat false
def readyL (c : Int → List Int) (parts : List (List Int)) (done : List Bool) : List Int := ((List.range parts.length).filter fun k => !done.getD k false && metB c parts done k).map fun o : Nat => (o : Int)
def ordS (c : Int → List Int) (parts : List (List Int)) (s : List Bool × List Int) : List Bool × List Int :=
  (s.1.set ((readyL c parts s.1).headD 0).toNat true, s.2 ++ [(readyL c parts s.1).headD 0])
def ordN (c : Int → List Int) (parts : List (List Int)) : Nat → List Bool × List Int
  | 0 => (List.replicate parts.length false, [])
  | j + 1 => ordS c parts (ordN c parts j)
theorem readyL_mem (c : Int → List Int) (parts : List (List Int)) (done : List Bool) (x : Int) : x ∈ readyL c parts done ↔ ∃ k : Nat, x = k ∧ k < parts.length ∧ done.getD k false = false ∧ metB c parts done k = true := by
  simp only [readyL, List.mem_map, List.mem_filter, List.mem_range, Bool.and_eq_true, Bool.not_eq_true']
  constructor
  · rintro ⟨o, ⟨h1, h2, h3⟩, rfl⟩
    exact ⟨o, rfl, h1, h2, h3⟩
  · rintro ⟨o, rfl, h1, h2, h3⟩
    exact ⟨o, ⟨h1, h2, h3⟩, rfl⟩
section
variable {c : Int → List Int} {n : Nat} (hc : ∀ k x, x ∈ c k → 0 ≤ x ∧ x < n) (hn : 0 < n)
include hc hn
/-- As long as not all is done something is ready. -/
theorem ready_ex (done : List Bool) : ∀ (s k : Nat), (reachL c n ((headsL c n).getD k 0)).length ≤ s → k < (partsL c n).length → done.getD k false = false → readyL c (partsL c n) done ≠ []
  | 0, k, hs, hk, hd => by
    have bk := (heads_rch hc hn (heads_get hk)).2.1
    have := ((reachL_spec hc bk).2 _).2 Rch.refl
    rw [List.eq_nil_of_length_eq_zero (l := reachL c n ((headsL c n).getD k 0)) (by omega)] at this
    cases this
  | s + 1, k, hs, hk, hd => by
    cases hm : metB c (partsL c n) done k
    · simp only [metB, List.all_eq_false] at hm
      obtain ⟨x, hx, hx2⟩ := hm
      obtain ⟨o, rfl, ho, _, _⟩ := (needsI_mem _ _ _ _).1 hx
      have hl := needs_less hc hn hk hx
      exact ready_ex done s o (by omega) ho (by simpa using hx2)
    · intro h
      have := (readyL_mem c (partsL c n) done (k : Int)).2 ⟨k, rfl, hk, hd, hm⟩
      rw [h] at this
      cases this
theorem ord_inv : ∀ j, j ≤ (partsL c n).length → (ordN c (partsL c n) j).1.length = (partsL c n).length ∧ (ordN c (partsL c n) j).1.count true = j ∧ (ordN c (partsL c n) j).2.length = j ∧ (j < (partsL c n).length → readyL c (partsL c n) (ordN c (partsL c n) j).1 ≠ [])
  | 0, _ => by
    refine ⟨by simp [ordN], by simp [ordN, List.count_replicate], by simp [ordN], fun h => ?_⟩
    exact ready_ex hc hn _ _ 0 (Nat.le_refl _) h (by simp [ordN, h])
  | j + 1, hj => by
    obtain ⟨h1, h2, h3, h4⟩ := ord_inv j (by omega)
    have h4 := h4 (by omega)
    obtain ⟨x, hx⟩ : ∃ x, (readyL c (partsL c n) (ordN c (partsL c n) j).1).head? = some x := by
      cases h : readyL c (partsL c n) (ordN c (partsL c n) j).1 with
      | nil => exact absurd h h4
      | cons x t => exact ⟨x, rfl⟩
    have hxm := List.mem_of_mem_head? hx
    obtain ⟨k, rfl, hk, hd, _⟩ := (readyL_mem _ _ _ _).1 hxm
    have hh : (readyL c (partsL c n) (ordN c (partsL c n) j).1).headD 0 = (k : Int) := by rw [List.headD_eq_head?_getD, hx]; rfl
    have e : ordN c (partsL c n) (j + 1) = ((ordN c (partsL c n) j).1.set k true, (ordN c (partsL c n) j).2 ++ [(k : Int)]) := by
      rw [ordN, ordS, hh]
      rfl
    have hkl : k < (ordN c (partsL c n) j).1.length := by omega
    have hkf : (ordN c (partsL c n) j).1[k] = false := by
      rw [List.getD_eq_getElem?_getD, List.getElem?_eq_getElem hkl] at hd
      simpa using hd
    have hct : ((ordN c (partsL c n) j).1.set k true).count true = j + 1 := by
      rw [List.count_set hkl, hkf, h2]
      simp
    rw [e]
    refine ⟨by simp [h1], hct, by simp [h3], fun hlt => ?_⟩
    obtain ⟨m, hm, hmf⟩ : ∃ m, m < (partsL c n).length ∧ ((ordN c (partsL c n) j).1.set k true).getD m false = false := by
      refine Classical.byContradiction fun hno => ?_
      have hall : ∀ b, b ∈ (ordN c (partsL c n) j).1.set k true → b = true := fun b hb => by
        obtain ⟨m, hm, rfl⟩ := List.mem_iff_getElem.1 hb
        refine Classical.byContradiction fun hb2 => hno ⟨m, by simpa [h1] using hm, ?_⟩
        rw [List.getD_eq_getElem?_getD, List.getElem?_eq_getElem hm]
        simpa using hb2
      have := List.count_eq_length.2 (fun b hb => (hall b hb).symm)
      rw [hct] at this
      simp [h1] at this
      omega
    exact ready_ex hc hn _ _ m (Nat.le_refl _) hm hmf
theorem ord_end : readyL c (partsL c n) (ordN c (partsL c n) (partsL c n).length).1 = [] := by
  obtain ⟨h1, h2, _, _⟩ := ord_inv hc hn _ (Nat.le_refl _)
  have hall : ∀ b, b ∈ (ordN c (partsL c n) (partsL c n).length).1 → b = true := fun b hb => (List.count_eq_length.1 (h2.trans h1.symm) b hb).symm
  cases h : readyL c (partsL c n) (ordN c (partsL c n) (partsL c n).length).1 with
  | nil => rfl
  | cons x t =>
    obtain ⟨k, _, hk, hd, _⟩ := (readyL_mem c (partsL c n) _ x).1 (by rw [h]; simp)
    have hkl : k < (ordN c (partsL c n) (partsL c n).length).1.length := by omega
    rw [List.getD_eq_getElem?_getD, List.getElem?_eq_getElem hkl, Option.getD_some, hall _ (List.getElem_mem _)] at hd
    cases hd
end
end Go.Proofs.YtnjoofpllhbccaaGreat
