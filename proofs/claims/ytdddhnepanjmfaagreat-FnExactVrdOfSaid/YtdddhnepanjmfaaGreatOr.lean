/- Lemmas and walks of this proof, some texts one behind the other. No condition. -/
import Derived.Test.YtdddhnepanjmfaaGreatStN
import Derived.Test.YtdddhnepanjmfaaGreatRelN
import Derived.Test.YtdddhnepanjmfaaGreatPrgOkI
import Derived.Test.YtdddhnepanjmfaaGreatCode
import Derived.Test.YtdddhnepanjmfaaGreatBlk
set_option linter.unusedSimpArgs false
set_option linter.unusedVariables false
/- May an instruction fail in a state: plain, and contracts of small functions. No condition. -/
namespace Go.Proofs.YtdddhnepanjmfaaGreat
open Go.RowKit
set_option linter.unusedVariables false
set_option linter.unusedSimpArgs false
attribute [local go_sem] ext_cell ext_frozen ext_lt ext_le ext_le1 lt_s2 lt_s3 lt_s4 lt_s5 lt_s6 ext_lt1 ext_lt2 ext_lt3

def nthI (xs : List Itv) (k : Int) : Itv := xs.getD k.toNat ⟨0, 0⟩
def prcI (ps : List Prc) (k : Int) : Itv := match ps[k.toNat]? with
  | some p => ⟨p.lo, p.hi⟩
  | none => ⟨0, 0⟩
/-- May a valid instruction fail. -/
def failsB (ps : List Prc) (i : Ins) (xs : List Itv) : Bool :=
  if i.op = 4 then inB (nthI xs i.b).lo (nthI xs i.b).hi 0
  else if i.op = 6 ∨ i.op = 7 then !inI (nthI xs i.a) ⟨0, 3⟩
  else if i.op = 10 then !inI (nthI xs i.a) (prcI ps i.to)
  else if i.op = 11 then (notI i.rel (nthI xs i.a) (nthI xs i.b)).isSome
  else false
def absFailsB (ps : List Prc) (i : Ins) (on : Bool) (xs : List Itv) (lo hi : Int) : Bool :=
  (stOkB on xs lo hi && on) && (prgOkB ps && (insOkB i ps.length 10 && failsB ps i xs))

theorem nthI_get {xs : List Itv} (h4 : xs.length = 4) {k : Int} (hk : varB k = true) : ∃ j : Nat, k = j ∧ j < 4 ∧ xs[j]? = some (nthI xs k) := by
  simp only [varB, Bool.and_eq_true, decide_eq_true_eq] at hk
  obtain ⟨j, rfl⟩ := Int.eq_ofNat_of_zero_le hk.1
  have hj : j < 4 := by omega
  refine ⟨j, rfl, hj, ?_⟩
  simp only [nthI, Int.toNat_natCast, List.getD_eq_getElem?_getD]
  rw [List.getElem?_eq_getElem (by omega)]
  rfl
theorem nthI_ok {xs : List Itv} {lo hi : Int} (h : stOkB true xs lo hi = true) {k : Int} (hk : varB k = true) : itvB (nthI xs k) = true := by
  have h4 : xs.length = 4 := by obtain ⟨_, x0, x1, x2, x3, rfl, _⟩ := st_four h; rfl
  obtain ⟨j, _, _, hj⟩ := nthI_get h4 hk
  exact itvB_all h _ (List.mem_of_getElem? hj)
theorem prgOk_prc {ps : List Prc} (h : prgOkB ps = true) {p : Prc} (hp : p ∈ ps) : itvB ⟨p.lo, p.hi⟩ = true := by
  simp only [prgOkB, Bool.and_eq_true, List.all_eq_true] at h
  have := h.2 p hp
  simp only [prcOkB, Bool.and_eq_true] at this
  exact this.1.1.1
theorem prcI_get {ps : List Prc} {k : Int} (h0 : 0 ≤ k) (hn : k < ps.length) : ∃ (j : Nat) (p : Prc), k = j ∧ j < ps.length ∧ ps[j]? = some p ∧ prcI ps k = ⟨p.lo, p.hi⟩ := by
  obtain ⟨j, rfl⟩ := Int.eq_ofNat_of_zero_le h0
  have hj : j < ps.length := by omega
  refine ⟨j, ps[j], rfl, hj, List.getElem?_eq_getElem hj, ?_⟩
  simp only [prcI, Int.toNat_natCast, List.getElem?_eq_getElem hj]

theorem implCellIndexes (w : World) : Calls Tryz.prog 130 #[] w fun e w' => e = .returned (.agg #[.int .i64 0, .int .i64 3]) ∧ Grew w w' := by
  go_enter Tryz.func130, Tryz.ntmps130
  go_wp2
  go_returns
  exact ⟨rfl, by unfold Grew; go_grown⟩
theorem specL7Places (w : World) : Calls Tryz.prog 80 #[] w fun e w' => e = .returned (.agg #[.int .i64 0, .int .i64 3]) ∧ Grew w w' := by
  go_enter Tryz.func80, Tryz.ntmps80
  go_wp2
  go_returns
  exact ⟨rfl, by unfold Grew; go_grown⟩
theorem specItvIn (a b : Itv) (w : World) (ha : itvB a = true) (hb : itvB b = true) :
    Calls Tryz.prog 79 #[a.v, b.v] w fun e w' => e = .returned (.bool (inI a b)) ∧ Grew w w' := by
  have hA := fun W => specItvOk a W
  have hB := fun W => specItvOk b W
  rw [show itvOkB a.lo a.hi = true from ha] at hA
  rw [show itvOkB b.lo b.hi = true from hb] at hB
  have HA := Lib.hid hA
  have HB := Lib.hid hB
  clear hA hB ha hb
  obtain ⟨al, ah⟩ := a
  obtain ⟨bl, bh⟩ := b
  dsimp only [Itv.v] at HA HB ⊢
  by_cases h1 : bl ≤ al
  · by_cases h2 : ah ≤ bh
    all_goals
      go_enter Tryz.func79, Tryz.ntmps79
      go_wp2_with (first | ((with_reducible refine (HA.out _).mono ?_); rintro e w' ⟨rfl, g'⟩; (first | obtain ⟨y, rfl⟩ := ext_cold g' | obtain ⟨y, rfl⟩ := ext_col g' | obtain ⟨y, rfl⟩ := ext_of g'); clear g') | ((with_reducible refine (HB.out _).mono ?_); rintro e w' ⟨rfl, g'⟩; (first | obtain ⟨z, rfl⟩ := ext_cold g' | obtain ⟨z, rfl⟩ := ext_col g' | obtain ⟨z, rfl⟩ := ext_of g'); clear g'))
      go_ret
      refine ⟨by simp [inI, h1, h2], ?_⟩
      exact gr
  · go_enter Tryz.func79, Tryz.ntmps79
    go_wp2_with (first | ((with_reducible refine (HA.out _).mono ?_); rintro e w' ⟨rfl, g'⟩; (first | obtain ⟨y, rfl⟩ := ext_cold g' | obtain ⟨y, rfl⟩ := ext_col g' | obtain ⟨y, rfl⟩ := ext_of g'); clear g') | ((with_reducible refine (HB.out _).mono ?_); rintro e w' ⟨rfl, g'⟩; (first | obtain ⟨z, rfl⟩ := ext_cold g' | obtain ⟨z, rfl⟩ := ext_col g' | obtain ⟨z, rfl⟩ := ext_of g'); clear g'))
    go_ret
    refine ⟨by (simp [inI]; omega), ?_⟩
    exact gr
theorem specL7Given (a : Option Addr) (n c : Nat) (ps : List Prc) (i : Ins) (w : World) (hr : RdP w a n ps) (hn : n ≤ 9223372036854775807) (h0 : 0 ≤ i.to) (h1 : i.to < n) :
    Calls Tryz.prog 81 #[.agg #[.slice a n c], i.v] w fun e w' => e = .returned (prcI ps i.to).v ∧ Grew w w' := by
  obtain ⟨op, d, ia, ib, rel, ilo, ihi, to⟩ := i
  simp only at h0 h1
  obtain ⟨k, p, rfl, hk, hp, he⟩ := prcI_get h0 (by rw [hr.len]; exact h1)
  simp only
  rw [he]
  have hk' : k < n := by omega
  obtain ⟨b, off, lo, hi, is, pa, pc, rfl, hx, c0, c1, c2, hb, hi1, hi2, hi3⟩ := rdP_at hr hk'
  rw [hx] at hp
  cases hp
  clear hr he hx hi1 hi2 hi3 hk
  have hb1 : b < w.heap.size + 1 := by omega
  have hb2 : b < w.heap.size + 1 + 1 := by omega
  go_enter Tryz.func81, Tryz.ntmps81
  go_wp2_with fail
  go_region
  go_wp2
  go_returns
  exact ⟨rfl, by unfold Grew; go_grown⟩
end Go.Proofs.YtdddhnepanjmfaaGreat

/- Rows whose elements hold rows of their own: each element owns an interval of blocks. No condition. -/
namespace Go.Proofs.YtdddhnepanjmfaaGreat
open Go.RowKit
set_option linter.unusedVariables false
set_option linter.unusedSimpArgs false

section
variable {μ : Type} {T : TypeId} {C : Nat} {f : μ → List Value} {Q : Nat → Nat → World → μ → Prop}
/-- An element's memory stands as long as its blocks do; the interval may be taken wider. -/
structure GoodQ (Q : Nat → Nat → World → μ → Prop) : Prop where
  stay : ∀ {lo hi : Nat} {w w' : World} {m : μ} {F : Nat → Prop}, Q lo hi w m → Chg F w w' → (∀ b, lo ≤ b → b < hi → ¬ F b) → Q lo hi w' m
  mono : ∀ {lo hi lo' hi' : Nat} {w : World} {m : μ}, Q lo hi w m → lo' ≤ lo → hi ≤ hi' → hi' ≤ w.heap.size → Q lo' hi' w m
/-- A row, and what its elements own, in the blocks from lo to hi. -/
def OwnR (T : TypeId) (C : Nat) (f : μ → List Value) (Q : Nat → Nat → World → μ → Prop) (lo hi : Nat) (w : World) (v : Value) (ms : List μ) : Prop :=
  w.ownsRow lo T C v ms.length (ms.flatMap f) ∧ ∃ F : Nat → Nat, (∀ b, v.ownBlock = some b → b < F 0) ∧ lo ≤ F 0 ∧ (∀ i, i < ms.length → F i ≤ F (i + 1)) ∧ F ms.length ≤ hi ∧ hi ≤ w.heap.size ∧
    ∀ i m, ms[i]? = some m → Q (F i) (F (i + 1)) w m
theorem mono_iv {F : Nat → Nat} {n : Nat} (h : ∀ i, i < n → F i ≤ F (i + 1)) : ∀ {i j : Nat}, i ≤ j → j ≤ n → F i ≤ F j := by
  intro i j hij hj
  induction hij with
  | refl => exact Nat.le_refl _
  | @step k hk ih => exact Nat.le_trans (ih (by omega)) (h k (by omega))
theorem OwnR.lohi {lo hi : Nat} {w : World} {v : Value} {ms : List μ} (h : OwnR T C f Q lo hi w v ms) : lo ≤ hi ∧ hi ≤ w.heap.size := by
  obtain ⟨h1, F, h2, h3, h4, h5, h6, h7⟩ := h
  have := mono_iv h4 (Nat.zero_le ms.length) (Nat.le_refl _)
  exact ⟨by omega, h6⟩
theorem OwnR.ownLt {lo hi : Nat} {w : World} {v : Value} {ms : List μ} (h : OwnR T C f Q lo hi w v ms) : ∀ b, v.ownBlock = some b → lo ≤ b ∧ b < hi := by
  obtain ⟨h1, F, h2, h3, h4, h5, h6, h7⟩ := h
  have := mono_iv h4 (Nat.zero_le ms.length) (Nat.le_refl _)
  intro b hb
  have := h2 b hb
  exact ⟨(h1.lt b hb).1, by omega⟩
theorem goodR (hQ : GoodQ Q) : GoodQ (fun lo hi w (m : List μ × Value) => OwnR T C f Q lo hi w m.2 m.1) := by
  refine ⟨?_, ?_⟩
  · rintro lo hi0 w w' ⟨ms, v⟩ G h c hG
    have hl := h.ownLt
    obtain ⟨h1, F, h2, h3, h4, h5, h6, h7⟩ := h
    refine ⟨owns_chg h1 c (fun b hb e => hG b (hl b hb).1 (hl b hb).2 e), F, h2, h3, h4, h5, Nat.le_trans h6 c.size, fun i m hi => ?_⟩
    have hi' := (List.getElem?_eq_some_iff.1 hi).1
    have h5' : F ms.length ≤ hi0 := h5
    have e1 := mono_iv h4 (Nat.zero_le i) (Nat.le_of_lt hi')
    have e2 := mono_iv h4 (show i + 1 ≤ ms.length from hi') (Nat.le_refl _)
    have e2' : F (i + 1) ≤ F ms.length := e2
    exact hQ.stay (h7 i m hi) c (fun b hb1 hb2 => hG b (by omega) (by omega))
  · rintro lo hi lo' hi' w ⟨ms, v⟩ h hlo hhi hs
    obtain ⟨h1, F, h2, h3, h4, h5, h6, h7⟩ := h
    exact ⟨owns_mono h1 hlo, F, h2, by omega, h4, by omega, hs, h7⟩
theorem OwnR.chg (hQ : GoodQ Q) {G : Nat → Prop} {lo hi : Nat} {w w' : World} {v : Value} {ms : List μ} (h : OwnR T C f Q lo hi w v ms) (c : Chg G w w') (hG : ∀ b, lo ≤ b → b < hi → ¬ G b) : OwnR T C f Q lo hi w' v ms :=
  (goodR hQ).stay (m := (ms, v)) h c hG
theorem OwnR.grew (hQ : GoodQ Q) {lo hi : Nat} {w w' : World} {v : Value} {ms : List μ} (h : OwnR T C f Q lo hi w v ms) (g : Grew w w') : OwnR T C f Q lo hi w' v ms :=
  h.chg hQ (Chg.of_below (F := fun _ => False) g) (fun _ _ _ e => e)
theorem rdl_map {β : Type} {E : World → List Value → β → Prop} (p : μ → β) {w : World} {a : Option Addr} {n : Nat} {ms : List μ} (h : RdL (fun w cs m => E w cs (p m)) C w a n ms) : RdL E C w a n (ms.map p) := by
  obtain ⟨h1, h2⟩ := h
  refine ⟨by simpa using h1, ?_⟩
  rcases h2 with rfl | ⟨b, off, rfl, h3⟩
  · exact .inl rfl
  · refine .inr ⟨b, off, rfl, fun k x hx => ?_⟩
    rw [List.getElem?_map] at hx
    cases hk : ms[k]? with
    | none => rw [hk] at hx; cases hx
    | some m =>
      rw [hk] at hx
      simp only [Option.map_some, Option.some.injEq] at hx
      subst hx
      exact h3 k m hk
/-- It reads as a list. -/
theorem OwnR.rd {β : Type} {E : World → List Value → β → Prop} {p : μ → β} (hC : 0 < C) (hf : ∀ m, (f m).length = C) {lo hi : Nat} {w : World} {a : Option Addr} {n c : Nat} {ms : List μ} (h : OwnR T C f Q lo hi w (.slice a n c) ms)
    (hE : ∀ lo hi m, Q lo hi w m → E w (f m) (p m)) : RdL E C w a n (ms.map p) := by
  obtain ⟨h1, F, h2, h3, h4, h5, h6, h7⟩ := h
  obtain ⟨A, cc, e⟩ := owns_slice h1
  simp only [Value.slice.injEq] at e
  obtain ⟨-, e, -⟩ := e
  subst e
  have := rdl_of_rd (E := fun w cs (m : μ) => E w cs (p m)) f hC hf rfl (owns_rd h1) (fun m hm => by
    obtain ⟨i, hi⟩ := List.getElem?_of_mem hm
    exact hE _ _ _ (h7 i m hi))
  exact rdl_map p this

/-! ### Building one -/

/-- The elements so far; the row stands in the block lo. -/
def BldR (T : TypeId) (C : Nat) (f : μ → List Value) (Q : Nat → Nat → World → μ → Prop) (lo n : Nat) (wr : World) (ms : List μ) : Prop :=
  ∃ ys, wr.ownsRow lo T C (.slice (some ⟨lo, 0, none⟩) n n) n ys ∧ (∀ j, j < ms.length * C → ys[j]? = (ms.flatMap f)[j]?) ∧ ∃ F : Nat → Nat, lo + 1 ≤ F 0 ∧ (∀ i, i < ms.length → F i ≤ F (i + 1)) ∧ F ms.length ≤ wr.heap.size ∧
    ∀ i m, ms[i]? = some m → Q (F i) (F (i + 1)) wr m
theorem BldR.start {lo n : Nat} {w : World} {ys : List Value} (h : w.ownsRow lo T C (.slice (some ⟨lo, 0, none⟩) n n) n ys) (hl : lo + 1 ≤ w.heap.size) : BldR T C f Q lo n w [] :=
  ⟨ys, h, fun j hj => absurd hj (by simp), fun _ => lo + 1, Nat.le_refl _, fun _ _ => Nat.le_refl _, hl, fun i m h => by simp at h⟩
theorem size_setCs : ∀ (cs : List Value) (w : World) (g o : Nat), (setCs w g o cs).heap.size = w.heap.size
  | [], _, _, _ => rfl
  | c :: cs, w, g, o => by rw [setCs, size_setCs cs]; simp
theorem chg_setCs (w : World) (g : Nat) : ∀ (cs : List Value) (o : Nat) (W : World), Chg (fun b => b = g) w W → Chg (fun b => b = g) w (setCs W g o cs)
  | [], _, _, h => h
  | c :: cs, o, W, h => chg_setCs w g cs (o + 1) _ (Chg.trans h (⟨rfl, rfl, rfl, by simp, fun k hk hn => Below.heap_setCell W ⟨g, o, none⟩ c k hn⟩ : Chg (fun b => b = g) W (W.setCell ⟨g, o, none⟩ c)) (fun _ _ h => h) (fun _ _ h => h))
theorem BldR.step (hQ : GoodQ Q) (hf : ∀ m, (f m).length = C) {lo n : Nat} {wr w2 : World} {ms : List μ} {m : μ} (h : BldR T C f Q lo n wr ms) (hn : ms.length < n) (g : Grew wr w2) (hm : Q wr.heap.size w2.heap.size w2 m) (hlo : lo < wr.heap.size) :
    BldR T C f Q lo n (setCs w2 lo (ms.length * C) (f m)) (ms ++ [m]) := by
  obtain ⟨ys, h1, h2, F, h3, h4, h5, h6⟩ := h
  have o2 := owns_grew h1 g
  have hc := chg_setCs w2 lo (f m) (ms.length * C) w2 (Chg.refl _ _)
  have hlen : (ms ++ [m]).length = ms.length + 1 := by simp
  have h50 := mono_iv h4 (Nat.zero_le ms.length) (Nat.le_refl _)
  have hsz := g.size
  refine ⟨_, (own_sets (f m) w2 ys (ms.length * C) o2).1, ?_, fun i => if i ≤ ms.length then F i else w2.heap.size, ?_, ?_, ?_, ?_⟩
  · refine pre_step hf m o2.1 ?_ h2
    have := Nat.mul_le_mul_right C (show ms.length + 1 ≤ n from hn)
    rw [Nat.succ_mul] at this
    exact this
  · simpa using h3
  · intro i hi
    rw [hlen] at hi
    by_cases h : i < ms.length
    · simp only [show i ≤ ms.length by omega, show i + 1 ≤ ms.length by omega, if_true]
      exact h4 i h
    · obtain rfl : i = ms.length := by omega
      simp only [Nat.le_refl, if_true, show ¬ (ms.length + 1 ≤ ms.length) by omega, if_false]
      omega
  · rw [hlen, size_setCs]
    simp only [show ¬ (ms.length + 1 ≤ ms.length) by omega, if_false]
    exact Nat.le_refl _
  · intro i x hx
    by_cases h : i < ms.length
    · rw [List.getElem?_append_left h] at hx
      simp only [show i ≤ ms.length by omega, show i + 1 ≤ ms.length by omega, if_true]
      have e1 := mono_iv h4 (Nat.zero_le i) (by omega)
      exact hQ.stay (hQ.stay (h6 i x hx) (Chg.of_below (F := fun _ => False) g) (fun _ _ _ e => e)) hc (fun b hb1 _ e => by omega)
    · have hi := (List.getElem?_eq_some_iff.1 hx).1
      rw [hlen] at hi
      obtain rfl : i = ms.length := by omega
      rw [List.getElem?_append_right (Nat.le_refl _), Nat.sub_self] at hx
      obtain rfl : m = x := by simpa using hx
      simp only [Nat.le_refl, if_true, show ¬ (ms.length + 1 ≤ ms.length) by omega, if_false]
      exact hQ.mono (hQ.stay hm hc (fun b hb1 _ e => by omega)) h5 (Nat.le_refl _) (by rw [size_setCs]; exact Nat.le_refl _)
theorem BldR.step' (hQ : GoodQ Q) (hf : ∀ m, (f m).length = C) {lo n k : Nat} {wr w2 : World} {ms : List μ} {m : μ} (h : BldR T C f Q lo n wr ms) (hk : ms.length = k) (hn : k < n) (g : Grew wr w2) (hm : Q wr.heap.size w2.heap.size w2 m) (hlo : lo < wr.heap.size) :
    BldR T C f Q lo n (setCs w2 lo (k * C) (f m)) (ms ++ [m]) := by
  subst hk
  exact h.step hQ hf hn g hm hlo
theorem BldR.row {lo n : Nat} {wr : World} {ms : List μ} (h : BldR T C f Q lo n wr ms) : ∃ ys, wr.ownsRow lo T C (.slice (some ⟨lo, 0, none⟩) n n) n ys := by
  obtain ⟨ys, h1, -⟩ := h
  exact ⟨ys, h1⟩
theorem grew_setCs {w w2 : World} {lo o : Nat} {cs : List Value} (g : Grew w w2) (h : w.heap.size ≤ lo) : Grew w (setCs w2 lo o cs) :=
  g.trans ((chg_setCs w2 lo cs o w2 (Chg.refl _ _)).belowB g.size (fun b e => by omega))
theorem BldR.done (hf : ∀ m, (f m).length = C) {lo n : Nat} {wr : World} {ms : List μ} (h : BldR T C f Q lo n wr ms) (hn : ms.length = n) : OwnR T C f Q lo wr.heap.size wr (.slice (some ⟨lo, 0, none⟩) n n) ms := by
  obtain ⟨ys, h1, h2, F, h3, h4, h5, h6⟩ := h
  have e : ys = ms.flatMap f := pre_all hf h1.1 hn h2
  rw [e] at h1
  refine ⟨by rw [hn]; exact h1, F, fun b hb => ?_, by omega, h4, h5, Nat.le_refl _, h6⟩
  simp only [Value.ownBlock, Option.some.injEq] at hb
  omega

/-! ### Marking one -/

/-- The row's cells from K on, and its elements from I on, are as they were. -/
def MrkR (T : TypeId) (C : Nat) (f : μ → List Value) (Q : Nat → Nat → World → μ → Prop) (lo hi : Nat) (w : World) (v : Value) (ms : List μ) (K I : Nat) (wr : World) : Prop :=
  Chg (fun b => lo ≤ b ∧ b < hi) w wr ∧ ∃ ys, wr.ownsRow lo T C v ms.length ys ∧ (∀ j, K ≤ j → ys[j]? = (ms.flatMap f)[j]?) ∧ ∃ F : Nat → Nat, (∀ b, v.ownBlock = some b → b < F 0) ∧ lo ≤ F 0 ∧ (∀ i, i < ms.length → F i ≤ F (i + 1)) ∧ F ms.length ≤ hi ∧ hi ≤ w.heap.size ∧
    ∀ i m, I ≤ i → ms[i]? = some m → Q (F i) (F (i + 1)) wr m
theorem MrkR.start {lo hi : Nat} {w : World} {v : Value} {ms : List μ} (h : OwnR T C f Q lo hi w v ms) : MrkR T C f Q lo hi w v ms 0 0 w := by
  obtain ⟨h1, F, h2, h3, h4, h5, h6, h7⟩ := h
  exact ⟨Chg.refl _ _, _, h1, fun _ _ => rfl, F, h2, h3, h4, h5, h6, fun i m _ hm => h7 i m hm⟩
theorem MrkR.weak {lo hi : Nat} {w wr : World} {v : Value} {ms : List μ} {K I K' I' : Nat} (h : MrkR T C f Q lo hi w v ms K I wr) (hK : K ≤ K') (hI : I ≤ I') : MrkR T C f Q lo hi w v ms K' I' wr := by
  obtain ⟨c, ys, h1, h2, F, h3, h4, h5, h6, h7, h8⟩ := h
  exact ⟨c, ys, h1, fun j hj => h2 j (by omega), F, h3, h4, h5, h6, h7, fun i m hi hm => h8 i m (by omega) hm⟩
theorem MrkR.grew (hQ : GoodQ Q) {lo hi : Nat} {w wr w' : World} {v : Value} {ms : List μ} {K I : Nat} (h : MrkR T C f Q lo hi w v ms K I wr) (g : Grew wr w') : MrkR T C f Q lo hi w v ms K I w' := by
  obtain ⟨c, ys, h1, h2, F, h3, h4, h5, h6, h7, h8⟩ := h
  exact ⟨c.trans (Chg.of_below g : Chg (fun b => lo ≤ b ∧ b < hi) wr w') (fun _ _ h => h) (fun _ _ h => h), ys, owns_grew h1 g, h2, F, h3, h4, h5, h6, h7, fun i m hi hm => hQ.stay (h8 i m hi hm) (Chg.of_below (F := fun _ => False) g) (fun _ _ _ e => e)⟩
/-- A cell that is behind us is written. -/
theorem MrkR.set (hQ : GoodQ Q) {lo hi : Nat} {w wr : World} {g n c : Nat} {ms : List μ} {K I p : Nat} (h : MrkR T C f Q lo hi w (.slice (some ⟨g, 0, none⟩) n c) ms K I wr) (hp : p < K) (u : Value) : MrkR T C f Q lo hi w (.slice (some ⟨g, 0, none⟩) n c) ms K I (wr.setCell ⟨g, p, none⟩ u) := by
  obtain ⟨x, ys, h1, h2, F, h3, h4, h5, h6, h7, h8⟩ := h
  have hg := h3 g rfl
  have hg2 := (h1.lt g rfl).1
  have e0 := mono_iv h5 (Nat.zero_le ms.length) (Nat.le_refl _)
  obtain ⟨A, cc, e⟩ := owns_slice h1
  simp only [Value.slice.injEq] at e
  obtain ⟨-, e, -⟩ := e
  subst e
  obtain ⟨o, gb⟩ := h1.stored p u
  have hcg : Chg (fun b => b = g) wr (wr.setCell ⟨g, p, none⟩ u) := ⟨rfl, rfl, rfl, by simp, fun k hk hn => Below.heap_setCell wr ⟨g, p, none⟩ u k hn⟩
  refine ⟨x.trans hcg (fun _ _ h => h) (fun i _ e => by omega), _, o, fun j hj => ?_, F, h3, h4, h5, h6, h7, fun i m hi hm => ?_⟩
  · rw [List.getElem?_set_ne (by omega)]
    exact h2 j hj
  · have hi' := (List.getElem?_eq_some_iff.1 hm).1
    have e1 := mono_iv h5 (Nat.zero_le i) (by omega)
    exact hQ.stay (h8 i m hi hm) hcg (fun b hb1 _ e => by omega)
/-- What stands of the row. -/
theorem MrkR.cell (hf : ∀ m, (f m).length = C) {lo hi : Nat} {w wr : World} {a : Option Addr} {n c : Nat} {ms : List μ} {K I k t : Nat} {m : μ} {u : Value} (h : MrkR T C f Q lo hi w (.slice a n c) ms K I wr) (hm : ms[k]? = some m) (ht : (f m)[t]? = some u) (hK : K ≤ k * C + t) :
    ∃ g, a = some ⟨g, 0, none⟩ ∧ n = ms.length ∧ wr.cell? ⟨g, k * C + t, none⟩ = some u ∧ (∀ j, wr.frozen? ⟨g, j, none⟩ = false) ∧ g < wr.heap.size ∧ ∀ j, j < ms.length * C → ∃ y, wr.cell? ⟨g, j, none⟩ = some y := by
  obtain ⟨x, ys, h1, h2, -⟩ := h
  have hk := (List.getElem?_eq_some_iff.1 hm).1
  have htC : t < C := by rw [← hf m]; exact (List.getElem?_eq_some_iff.1 ht).1
  have hkC : k * C + t < ms.length * C := by
    have := Nat.mul_le_mul_right C (show k + 1 ≤ ms.length from hk)
    rw [Nat.succ_mul] at this
    omega
  obtain ⟨A, cc, e⟩ := owns_slice h1
  simp only [Value.slice.injEq] at e
  obtain ⟨-, e, -⟩ := e
  subst e
  rcases h1.2 with ⟨e1, e2⟩ | ⟨g, cap', cur, e1, _⟩
  · omega
  · simp only [Value.slice.injEq] at e1
    obtain ⟨rfl, -, -⟩ := e1
    refine ⟨g, rfl, rfl, ?_, fun j => h1.frozenAt j, (h1.lt g rfl).2, fun j hj => own_some h1 hj⟩
    rw [h1.cellAt _ (by have := h1.1; omega), h2 _ hK]
    exact flat_get f C hf ms k m t u hm ht
/-- Element I's own blocks are marked. -/
theorem MrkR.inner (hQ : GoodQ Q) {lo hi : Nat} {w wr : World} {v : Value} {ms : List μ} {K I : Nat} {m : μ} (h : MrkR T C f Q lo hi w v ms K I wr) (hm : ms[I]? = some m) :
    ∃ l u, Q l u wr m ∧ lo ≤ l ∧ u ≤ hi ∧ (∀ b, v.ownBlock = some b → b < l) ∧ ∀ {w' : World}, Chg (fun b => l ≤ b ∧ b < u) wr w' → MrkR T C f Q lo hi w v ms K (I + 1) w' := by
  obtain ⟨x, ys, h1, h2, F, h3, h4, h5, h6, h7, h8⟩ := h
  have hi' := (List.getElem?_eq_some_iff.1 hm).1
  have e1 := mono_iv h5 (Nat.zero_le I) (by omega)
  have e2 := mono_iv h5 (show I + 1 ≤ ms.length from hi') (Nat.le_refl _)
  refine ⟨F I, F (I + 1), h8 I m (Nat.le_refl _) hm, by omega, by omega, fun b hb => by have := h3 b hb; omega, fun c => ⟨x.trans c (fun _ _ h => h) (fun i _ e => by omega), ys, owns_chg h1 c (fun b hb e => by have := h3 b hb; omega), h2, F, h3, h4, h5, h6, h7, fun i y hi hy => ?_⟩⟩
  have hy' := (List.getElem?_eq_some_iff.1 hy).1
  have e3 := mono_iv h5 hi (by omega)
  exact hQ.stay (h8 i y (by omega) hy) c (fun b hb1 hb2 e => by omega)
end
end Go.Proofs.YtdddhnepanjmfaaGreat
