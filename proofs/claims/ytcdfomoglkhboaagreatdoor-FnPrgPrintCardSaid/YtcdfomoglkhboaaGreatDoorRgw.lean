/- Lemmas and walks of this proof, some texts one behind the other. No condition. -/
import Derived.Test.YtcdfomoglkhboaaGreatDoorTxB
import Derived.Test.YtcdfomoglkhboaaGreatDoorDr
import Derived.Laws.IdiomStrings
import Derived.Laws.DeepStrings4
import Derived.Test.YtcdfomoglkhboaaGreatDoorRegion
import Derived.Test.YtcdfomoglkhboaaGreatDoorData
set_option linter.unusedSimpArgs false
set_option linter.unusedVariables false
/- The reference's writers of a variable and of a number; the program's names. No condition. -/
namespace Go.Proofs.YtcdfomoglkhboaaGreatDoor
open Go.RowKit Go.Lib
set_option linter.unusedVariables false
set_option linter.unusedSimpArgs false
attribute [local go_sem] ext_cell ext_frozen ext_lt ext_le ext_le1 lt_s2 lt_s3 lt_s4 lt_s5 lt_s6 ext_lt1 ext_lt2 ext_lt3
attribute [local go_sem] ByteArray.mk_append_mk

/-- One byte as a string. -/
theorem conv1 (w : World) (x : Int) (h0 : 0 ≤ x) (h1 : x < 256) :
    (convert 22 9 (.slice (some ⟨w.heap.size, 0, none⟩) 1 1)).run Tryz.prog (w.alloc (.cells #[.int .u8 x] 5)) =
      .ok (.string ⟨#[UInt8.ofNat x.toNat]⟩) (w.alloc (.cells #[.int .u8 x] 5)) := by
  refine run_convert_bytes_back (w.alloc (.cells #[.int .u8 x] 5)) 22 9 5 ⟨w.heap.size, 0, none⟩ 1 [UInt8.ofNat x.toNat] Tryz.underlying22 Tryz.underlying5 Tryz.underlying9 ?_
  intro j hj
  have hj' : j = 0 := by simpa using hj
  subst hj'
  have e : ((UInt8.ofNat x.toNat).toNat : Int) = x := by rw [UInt8.toNat_ofNat']; omega
  show World.cell? _ _ = some (.int .u8 ((UInt8.ofNat x.toNat).toNat : Int))
  rw [e]
  simp [go_sem]

set_option maxRecDepth 100000 in
theorem specVar (k : Int) (w : World) (h : varB k = true) :
    Calls Tryz.prog 45 #[.int .i64 k] w fun e w' => e = .returned (.string ⟨(varT k).toArray⟩) ∧ Grew w w' := by
  have hk := var4 h
  clear h
  have c0 := conv1 w 97 (by decide) (by decide)
  have c1 := conv1 w 98 (by decide) (by decide)
  have c2 := conv1 w 99 (by decide) (by decide)
  have c3 := conv1 w 100 (by decide) (by decide)
  rcases hk with rfl | rfl | rfl | rfl
  all_goals
    go_enter Tryz.func45, Tryz.ntmps45
    go_wp2
    go_ret
    exact ⟨rfl, gr⟩

theorem nDigits_pow : ∀ (k u : Nat), u < 10 ^ (k + 1) → nDigits u ≤ k + 1
  | 0, u, h => by rw [nDigits_small (by simpa using h)]; omega
  | k + 1, u, h => by
    by_cases hu : u < 10
    · rw [nDigits_small hu]; omega
    · rw [nDigits_big hu]
      have := nDigits_pow k (u / 10) (by rw [Nat.pow_succ] at h; omega)
      omega
theorem dec_len (u : Nat) (h : u < 9223372036854775808) : (decDigits u).length ≤ 19 := by
  rw [decDigits_length]
  exact nDigits_pow 18 u (by omega)
theorem dec_step {m : Nat} (h : 9 < m) : decDigits m = decDigits (m / 10) ++ [UInt8.ofNat (48 + m % 10)] := by
  rw [decDigits, dif_neg (by omega)]
theorem dec_last {m : Nat} (h : ¬ 9 < m) : decDigits m = [UInt8.ofNat (48 + m)] := by
  rw [decDigits, dif_pos (by omega)]

set_option maxRecDepth 100000 in
theorem specPlain (N : Nat) (w : World) (h : N < 9223372036854775808) :
    Calls Tryz.prog 62 #[.int .i64 N] w fun e w' => e = .returned (.string ⟨(decDigits N).toArray⟩) ∧ Grew w w' := by
  have HL := Lib.hid (dec_len N h)
  go_enter Tryz.func62, Tryz.ntmps62
  go_wp2
  go_loopw [0, 3] (fun n out W => ∃ (m : Nat) (r : List UInt8), m < 9223372036854775808 ∧ decDigits N = decDigits m ++ r ∧ n = .int .i64 m ∧ out = .string ⟨r.toArray⟩ ∧ Grew w W) (fun n _ _ => (intOf n).toNat)
  case atStart => exact ⟨N, [], h, by simp, rfl, rfl, gr⟩
  case round =>
    rename_i out W
    obtain ⟨m, r, hm, hD, rfl, rfl, hg⟩ := hrel
    have HD := Lib.hid hD
    have hr : r.length ≤ 19 := by have := HL.out; rw [hD, List.length_append] at this; omega
    clear hD
    by_cases h9 : 9 < m
    · have hs := Lib.hid (dec_step h9)
      have cv := conv1 wr (48 + (m : Int) % 10) (by omega) (by omega)
      rw [show (48 + (m : Int) % 10).toNat = 48 + m % 10 by omega] at cv
      generalize UInt8.ofNat (48 + m % 10) = c at cv hs
      go_wp2
      go_roundw
      case rel => exact ⟨m / 10, c :: r, by omega, by rw [HD.out, hs.out]; simp, by go_num, rfl, gr⟩
      case measure => simp [intOf]; omega
    · have hs := Lib.hid (dec_last h9)
      have cv := conv1 wr (48 + (m : Int)) (by omega) (by omega)
      rw [show (48 + (m : Int)).toNat = 48 + m by omega] at cv
      generalize UInt8.ofNat (48 + m) = c at cv hs
      go_wp2
      go_ret
      refine ⟨?_, gr⟩
      rw [HD.out, hs.out]
      rfl

/-- A number that no sum of the digits wraps. -/
theorem specDigits (n : Int) (w : World) (h1 : -9223372036854775808 < n) (h2 : n < 9223372036854775808) :
    Calls Tryz.prog 29 #[.int .i64 n] w fun e w' => e = .returned (.string ⟨(itoa n).toArray⟩) ∧ Grew w w' := by
  by_cases hn : n < 0
  · obtain ⟨N, rfl⟩ : ∃ N : Nat, n = -(N : Int) := ⟨n.natAbs, by omega⟩
    have C := Lib.hid fun w => specPlain N w (by omega)
    have HI := Lib.hid (show itoa (-(N : Int)) = 45 :: decDigits N by unfold itoa; rw [if_pos hn]; simp)
    have hl := dec_len N (by omega)
    go_enter Tryz.func29, Tryz.ntmps29
    go_wp2_with fail
    (with_reducible refine (C.out _).mono ?_)
    rintro e w1 ⟨rfl, g1⟩
    obtain ⟨x, rfl⟩ := ext_of g1
    clear g1
    go_wp2
    go_ret
    exact ⟨by rw [HI.out]; rfl, gr⟩
  · obtain ⟨N, rfl⟩ : ∃ N : Nat, n = (N : Int) := ⟨n.natAbs, by omega⟩
    have C := Lib.hid fun w => specPlain N w (by omega)
    have HI := Lib.hid (show itoa (N : Int) = decDigits N by unfold itoa; rw [if_neg hn]; simp)
    go_enter Tryz.func29, Tryz.ntmps29
    go_wp2_with fail
    (with_reducible refine (C.out _).mono ?_)
    rintro e w1 ⟨rfl, g1⟩
    obtain ⟨x, rfl⟩ := ext_of g1
    clear g1
    go_wp2
    go_ret
    exact ⟨by rw [HI.out]; rfl, gr⟩

/-- A variable's name, as the program writes it. -/
theorem implVar (k : Int) (w : World) (h : varB k = true) :
    Calls Tryz.prog 94 #[.int .i64 k] w fun e w' => e = .returned (.string ⟨(varT k).toArray⟩) ∧ w = w' := by
  have hk := var4 h
  clear h
  rcases hk with rfl | rfl | rfl | rfl
  all_goals
    go_enter Tryz.func94, Tryz.ntmps94
    go_wp2
    go_ret
    exact ⟨rfl, rfl⟩
end Go.Proofs.YtcdfomoglkhboaaGreatDoor

/- A region that draws its order and writes two boxes, each once. No condition. -/
namespace Go.Proofs.YtcdfomoglkhboaaGreatDoor
open Go.RowKit
set_option linter.unusedVariables false
set_option linter.unusedSimpArgs false
attribute [local go_sem] ext_cell ext_frozen ext_lt ext_le ext_le1 lt_s2 lt_s3 lt_s4 lt_s5 lt_s6 ext_lt1 ext_lt2 ext_lt3

theorem Chg.alw {F : Nat → Prop} {w W : World} {p : Addr} (h : Chg F w W) (hp : F p.block) (u : Value) : Chg F w (W.setCell p u) :=
  ⟨h.os, h.tape, h.output, Nat.le_trans h.size (by simp), fun k hk hn => (Below.heap_setCell W p u k (fun e => hn (e ▸ hp))).trans (h.block k hk hn)⟩
theorem chg_gr {F : Nat → Prop} {w W W' : World} (h : Chg F w W) (g : Grew W W') : Chg F w W' := h.trans (Chg.of_below g : Chg F W W') (fun _ _ h => h) (fun _ _ h => h)
theorem getD_ff {L : Array Bool} {i : Nat} (h : L.getD i true = false) : L.getD i false = false := by
  simp only [Array.getD_eq_getD_getElem?] at h ⊢
  cases e : L[i]? with
  | none => rfl
  | some b => rw [e] at h; exact h
theorem getD_rep {n i : Nat} : (Array.replicate n false).getD i false = false := by
  simp only [Array.getD_eq_getD_getElem?, Array.getElem?_replicate]
  split <;> rfl
def hasNoT (ops : Array Oper) (d : Tmp) : Bool := ops.all fun o => o.dst != some d
theorem hasNoT_spec {ops : Array Oper} {d : Tmp} (h : hasNoT ops d = true) (i : Nat) : dstOf ops i ≠ some d := by
  intro hi
  unfold dstOf at hi
  cases ho : ops[i]? with
  | none => simp [ho] at hi
  | some o =>
    rw [hasNoT, Array.all_eq_true'] at h
    have := h o (Array.mem_of_getElem? ho)
    simp [ho] at hi
    simp [hi] at this
def DepT (ops : Array Oper) (o : Oper) (k : Nat) (d : Tmp) : Prop := (∃ e, e ∈ o.after.toList ∧ e.on = k ∧ Region.binds .any e = true) ∧ dstOf ops k = some d
section
variable {P : Program} {ops : Array Oper} {Q : Exit → Act → World → Prop} {a0 : Act} {wo : World} {V : Nat → Value} {z1 z2 i1 i2 : Nat} {T1 T2 : TypeId} {o1 o2 n1 n2 : Array Value} {i : Nat} {o : Oper}
/-- What an operation may lean on. -/
structure TAt (ops : Array Oper) (a0 : Act) (V : Nat → Value) (wo : World) (z1 z2 : Nat) (o : Oper) (a : Act) (W : World) : Prop where
  chg : Chg (fun b => b = z1 ∨ b = z2) wo W
  fr : ∀ d, (∀ i, dstOf ops i ≠ some d) → a.eval (.tmp d) = a0.eval (.tmp d)
  dep : ∀ e, e ∈ o.after.toList → Region.binds .any e = true → ∀ d, dstOf ops e.on = some d → a.eval (.tmp d) = V e.on
theorem TAt.old {a : Act} {W : World} (h : TAt ops a0 V wo z1 z2 o a W) (d : Tmp) (hd : hasNoT ops d = true) : a.eval (.tmp d) = a0.eval (.tmp d) := h.fr d (hasNoT_spec hd)
theorem TAt.val {a : Act} {W : World} (h : TAt ops a0 V wo z1 z2 o a W) {k : Nat} {d : Tmp} (hd : DepT ops o k d) : a.eval (.tmp d) = V k := by
  obtain ⟨⟨e, he1, rfl, he3⟩, hdd⟩ := hd
  exact h.dep e he1 he3 d hdd
theorem TAt.cell {a : Act} {W : World} (h : TAt ops a0 V wo z1 z2 o a W) {p : Addr} {v : Value} (hp : wo.cell? p = some v) (n1 : p.block ≠ z1) (n2 : p.block ≠ z2) : W.cell? p = some v :=
  (World.cell?_of_block (h.chg.block p.block (World.block_lt_of_cell? wo p hp) (fun e => e.elim n1 n2))).trans hp
end
end Go.Proofs.YtcdfomoglkhboaaGreatDoor

/- Drawn regions in a world that only grows, each operation alone: what each slot holds is said by a property that growth keeps. No condition. -/
namespace Go.Proofs.YtcdfomoglkhboaaGreatDoor
open Go.RowKit
set_option linter.unusedVariables false
set_option linter.unusedSimpArgs false
attribute [local go_sem] ext_cell ext_frozen ext_lt ext_le ext_le1 lt_s2 lt_s3 lt_s4 lt_s5 lt_s6 ext_lt1 ext_lt2 ext_lt3

/-- A property of a slot that stays in a world that has grown. -/
structure Pg where
  p : World → Value → Prop
  st : ∀ w w' v, Grew w w' → p w v → p w' v
def pgQ (q : Value → Prop) : Pg := ⟨fun _ u => q u, fun _ _ _ _ h => h⟩
def pgV (v : Value) : Pg := ⟨fun _ u => u = v, fun _ _ _ _ h => h⟩
def pgT : Pg := pgQ fun _ => True
def Gof (l : List Pg) (i : Nat) (w : World) (v : Value) : Prop := (l.getD i pgT).p w v
theorem gk {w W : World} {p : Addr} {v : Value} (g : Grew w W) (hp : w.cell? p = some v) : W.cell? p = some v :=
  (World.cell?_of_block (g.block p.block (World.block_lt_of_cell? w p hp))).trans hp

/-- A row of strings that stands behind B. -/
def RowS (B n c : Nat) (xs : List (List UInt8)) (w : World) (v : Value) : Prop :=
  ∃ t, v = .slice (some ⟨t, 0, none⟩) n c ∧ B ≤ t ∧ t < w.heap.size ∧ ∀ (j : Nat) (x : List UInt8), xs[j]? = some x → w.cell? ⟨t, j, none⟩ = some (.string ⟨x.toArray⟩)
theorem RowS.grew {B n c : Nat} {xs : List (List UInt8)} {w w' : World} {v : Value} (h : RowS B n c xs w v) (g : Grew w w') : RowS B n c xs w' v := by
  obtain ⟨t, h1, h2, h3, h4⟩ := h
  exact ⟨t, h1, h2, Nat.lt_of_lt_of_le h3 g.size, fun j x hx => gk g (h4 j x hx)⟩
def pgS (B n c : Nat) (xs : List (List UInt8)) : Pg := ⟨RowS B n c xs, fun _ _ _ g h => h.grew g⟩
/-- A pointer to a string. -/
def PtS (x : List UInt8) (w : World) (v : Value) : Prop := ∃ p, v = .pointer (some p) ∧ w.cell? p = some (.string ⟨x.toArray⟩)
def pgP (x : List UInt8) : Pg := ⟨PtS x, fun _ _ _ g ⟨p, h1, h2⟩ => ⟨p, h1, gk g h2⟩⟩

section
variable {P : Program} {ops : Array Oper} {Q : Exit → Act → World → Prop} {a0 : Act} {wo : World} {l : List Pg} {i : Nat} {o : Oper}
/-- What an operation may lean on. -/
structure GAt (ops : Array Oper) (a0 : Act) (wo : World) (l : List Pg) (o : Oper) (a : Act) (W : World) : Prop where
  grew : Grew wo W
  fr : ∀ d, (∀ i, dstOf ops i ≠ some d) → a.eval (.tmp d) = a0.eval (.tmp d)
  dep : ∀ e, e ∈ o.after.toList → Region.binds .any e = true → ∀ d, dstOf ops e.on = some d → Gof l e.on W (a.eval (.tmp d))
theorem GAt.slot {a : Act} {W : World} (h : GAt ops a0 wo l o a W) (d : Tmp) (hd : hasNoT ops d = true := by kernel_rfl) : a.eval (.tmp d) = a0.eval (.tmp d) := h.fr d (hasNoT_spec hd)
def depW (ops : Array Oper) (o : Oper) (k : Nat) (d : Tmp) : Bool := (o.after.any fun e => e.on == k && Region.binds .any e) && dstOf ops k == some d
theorem GAt.vb {a : Act} {W : World} (h : GAt ops a0 wo l o a W) (k : Nat) (d : Tmp) (hd : depW ops o k d = true := by kernel_rfl) : Gof l k W (a.eval (.tmp d)) := by
  simp only [depW, Bool.and_eq_true, Array.any_eq_true', beq_iff_eq] at hd
  obtain ⟨⟨e, he, rfl, hb⟩, hk⟩ := hd
  exact h.dep e (by simpa using he) hb d hk
def WStep (P : Program) (ops : Array Oper) (Q : Exit → Act → World → Prop) (a0 : Act) (wo : World) (l : List Pg) (i : Nat) (o : Oper) : Prop :=
  ∀ (a : Act) (W : World), GAt ops a0 wo l o a W → o.wp P a W (fun a' w' => ∃ v, a' = a.put o.dst v ∧ Gof l i w' v ∧ Grew W w') Q
theorem region_w {id : Nat} (n : Nat) (l : List Pg) (hm : P.follows .mixedOrders = true) (hn : a0.tmps.size = n) (hB : regB ops n = true) (hstep : AllSteps (WStep P ops Q a0 wo l) 0 ops.toList)
    (hend : ∀ (vs : Nat → Value) (w' : World), Grew wo w' → (∀ i d, dstOf ops i = some d → Gof l i w' (vs i)) → Q .normal (putAll ops.toList vs 0 a0) w') : (Code.region id ops true).wp P Q a0 wo := by
  subst hn
  refine wp_region_inv (fun _ W => Grew wo W) (Gof l) hm hB (grew_d (Below.refl _ _)) (fun i o ho => ?_) (fun vs w' h hR => hend vs w' (by obtain ⟨L, h1, _⟩ := h; exact h1) hR)
  have hs := allSteps_get _ _ hstep i o (by simpa using ho)
  rw [Nat.zero_add] at hs
  intro L a w1 hL hi hf _ hI hfr hd
  refine Oper.wp_mono ?_ (hs a w1 ⟨hI, hfr, fun e he hb => (hd e he hb).2⟩)
  rintro a' w' ⟨v, h1, h2, h3⟩
  exact ⟨v, h1, h2, grew_tr hI h3, fun j u _ hu => (l.getD j pgT).st _ _ _ h3 hu⟩
theorem w_ex (h : ∀ (a : Act) (W : World), GAt ops a0 wo l o a W → ∃ v W', (execOp a.eval o).run P W = .ok (.value v) W' ∧ (l.getD i pgT).p W' v ∧ Grew W W') : WStep P ops Q a0 wo l i o := by
  intro a W ha
  obtain ⟨v, W', h1, h2, h3⟩ := h a W ha
  unfold Oper.wp
  rw [h1]
  exact ⟨v, rfl, h2, h3⟩
theorem w_vx {v : Value} (hv : l.getD i pgT = pgV v) (h : ∀ (a : Act) (W : World), GAt ops a0 wo l o a W → (execOp a.eval o).run P W = .ok (.value v) W) : WStep P ops Q a0 wo l i o :=
  w_ex fun a W ha => ⟨v, W, h a W ha, by rw [hv]; exact rfl, Below.refl _ _⟩
theorem w_callX {f : FuncId} {vals : Array Value} (h : ∀ (a : Act) (W : World), GAt ops a0 wo l o a W → (execOp a.eval o).run P W = .ok (.enter f vals) W)
    (C : ∀ W, Grew wo W → Calls P f vals W fun e w' => ∃ v, e = .returned v ∧ (l.getD i pgT).p w' v ∧ Grew W w') : WStep P ops Q a0 wo l i o := by
  intro a W ha
  unfold Oper.wp
  rw [h a W ha]
  refine Calls.mono (C W ha.grew) ?_
  rintro e w' ⟨v, rfl, h2, h3⟩
  exact ⟨v, rfl, h2, h3⟩
theorem w_call {f : FuncId} {vals : Array Value} {v : Value} (hv : l.getD i pgT = pgV v) (h : ∀ (a : Act) (W : World), GAt ops a0 wo l o a W → (execOp a.eval o).run P W = .ok (.enter f vals) W)
    (C : ∀ W, Grew wo W → Calls P f vals W fun e w' => e = .returned v ∧ Grew W w') : WStep P ops Q a0 wo l i o :=
  w_callX h fun W hW => (C W hW).mono fun e w' ⟨h1, h2⟩ => ⟨v, h1, by rw [hv]; exact rfl, h2⟩
/-- A cell of a row just laid. -/
theorem row_cell {W : World} {xs : List (List UInt8)} {cs : Array Value} {T : TypeId} {j : Nat} {x : List UInt8} (hx : xs[j]? = some x) (hcs : cs = (xs.map fun x => Value.string ⟨x.toArray⟩).toArray := by rfl) : (W.alloc (.cells cs T)).cell? ⟨W.heap.size, j, none⟩ = some (.string ⟨x.toArray⟩) := by
  subst hcs
  rw [(Blk.new W T _).cell]
  simp [hx]
theorem evalK (A : Act) (v : Value) : A.eval (.const v) = v := rfl
theorem str_add (T : TypeId) (x y : List UInt8) (h : x.length + y.length ≤ 9223372036854775807) (W : World) : (binOp .add T (.string ⟨x.toArray⟩) (.string ⟨y.toArray⟩)).run P W = .ok (.string ⟨(x ++ y).toArray⟩) W := by
  rw [binOp_string_add, run_string_add_sum W _ _ (by simpa [ByteArray.size] using h), ByteArray.mk_append_mk]
/-- A quiet call. -/
theorem same_grew {f : FuncId} {vals : Array Value} {v : Value} {W : World} (C : Calls P f vals W fun e w' => e = .returned v ∧ W = w') : Calls P f vals W fun e w' => e = .returned v ∧ Grew W w' :=
  C.mono fun e w' ⟨h1, h2⟩ => ⟨h1, h2 ▸ Below.refl _ _⟩
end
end Go.Proofs.YtcdfomoglkhboaaGreatDoor
