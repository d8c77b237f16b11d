/- Lemmas and walks of this proof, some texts one behind the other. No condition. -/
import Derived.Test.YtcdfomoglkhboaaGreatDoorDrX
import Derived.Test.YtcdfomoglkhboaaGreatDoorDrO
import Derived.Lib.ItoaNum
import Derived.Lib.Join
import Derived.Lib.AtoiTie
import Derived.Lib.Split
import Derived.Lib.IndexLaws
import Derived.Lib.IndexBytes
import Derived.Test.YtcdfomoglkhboaaGreatDoorInsOk
set_option linter.unusedSimpArgs false
set_option linter.unusedVariables false
/- The draw DrawPrgAt. No condition. -/
namespace Go.Proofs.YtcdfomoglkhboaaGreatDoor
open Go.RowKit
set_option linter.unusedVariables false
set_option linter.unusedSimpArgs false
attribute [local go_sem] dg_cell dg_frozen dg_lt dg_lt1 dg_lt2 dg_ne dg_ne1 dg_ne2 dg_new dg_wen lt_s2 lt_s3 lt_s4 lt_s5 lt_s6

/-- A program in memory that is there. -/
def PrgIn (w : World) (a : Option Addr) (n : Nat) (ps : List Prc) : Prop := RdP w a n ps ∧ n ≤ 5 ∧ ∀ p, p ∈ ps → p.code.length ≤ 12
theorem PrgIn.grew {w w' : World} {a : Option Addr} {n : Nat} {ps : List Prc} (h : PrgIn w a n ps) (hg : Grew w w') : PrgIn w' a n ps := ⟨h.1.grew hg, h.2⟩
theorem PrgIn.of {w : World} {B n cap : Nat} {a : Option Addr} {ms : List (Prc × Value)} (h : OwnP w B (.slice a n cap) n ms) (hn : n ≤ 5) (hm : ∀ m, m ∈ ms → m.1.code.length ≤ 12) : PrgIn w a n (ms.map (·.1)) :=
  ⟨h.rd, hn, fun p hp => by obtain ⟨m, hm1, rfl⟩ := List.mem_map.1 hp; exact hm m hm1⟩
theorem PrgIn.len {w : World} {a : Option Addr} {n : Nat} {ps : List Prc} (h : PrgIn w a n ps) : ps.length = n := h.1.len

end Go.Proofs.YtcdfomoglkhboaaGreatDoor

/- The draw of the law FnPrgPrint: a program, one in so many with something wrong (DrawPrgPrint). No condition. -/
namespace Go.Proofs.YtcdfomoglkhboaaGreatDoor
open Go.RowKit Go.Lib
set_option linter.unusedVariables false
set_option linter.unusedSimpArgs false
attribute [local go_sem] dg_cell dg_frozen dg_lt dg_lt1 dg_lt2 dg_ne dg_ne1 dg_ne2 dg_new dg_wen lt_s2 lt_s3 lt_s4 lt_s5 lt_s6

theorem body_letD {P : Program} {f : Func} {Q : Ending → World → Prop} {x : Exit} {a : Act} {W : World} (h : ∀ E, E = W → bodyPost P f Q x a E) : bodyPost P f Q x a W := h W rfl
set_option maxRecDepth 100000 in
set_option maxHeartbeats 4000000 in
theorem drawPrgPrint (a : Option Addr) (n cap : Nat) (zs : List Int) (w : World) (hr : Rd w a n 1 (ints .u8 zs)) (hz : Bs zs) (hc : n ≤ cap ∧ cap ≤ maxLen) :
    Calls Tryz.prog 6 #[.slice a n cap] w fun e w' => ∃ (pa : Option Addr) (m pc : Nat) (ps : List Prc), e = .returned (.agg #[.slice pa m pc]) ∧ PrgIn w' pa m ps ∧ Grew w w' := by
  have HR0 := Lib.hid (hr.grew (grew_al (Below.refl _ w) (.cells Zq 25))); clear hr
  have HZ := Lib.hid hz; clear hz
  go_enter Tryz.func6, Tryz.ntmps6
  go_wp2_with fail
  refine (l20Open _ _ _ _ _ HR0.out HZ.out hc).mono ?_
  rintro e w1 ⟨rfl, h1, h2⟩
  have hZ1 := Lib.hid (show Blk w1 w.heap.size 25 Zq from (Blk.new w _ _).grew h2)
  have G1 := Lib.hid (show Grew w w1 from grew_tr (grew_al (Below.refl _ w) _) h2)
  obtain ⟨g, hg⟩ : ∃ g, w.heap.size + 1 = g := ⟨_, rfl⟩
  simp only [World.size_alloc, hg] at h1 ⊢
  have hgw : w.heap.size < g := by omega
  have ngz : ¬ w.heap.size = g := by omega
  have lg := h1.lt
  have H1 := Lib.hid h1
  clear h1 h2 hg HR0 HZ
  go_wp2_with fail
  refine Calls.mono (progOrG (q := 6) H1.out (by omega) (by omega)) ?_
  rintro e w2 ⟨v, m, ms, rfl, ho, hm5, hml, hr2, hc2⟩
  obtain ⟨pa, pc, rfl⟩ := owns_slice ho.2.1
  have HO := Lib.hid ho
  have HC := Lib.hid hc2
  have HZ2 := Lib.hid (hZ1.out.chg hc2 ngz)
  have HM := Lib.hid hml
  have zl := HZ2.out.lt
  have z0 := HZ2.out.cell 0
  have zf := fun q => HZ2.out.frozen q
  simp only [List.getElem?_toArray, List.getElem?_cons_zero] at z0
  clear ho hc2 hr2 hml hZ1
  go_wp2
  refine body_letD ?_
  intro E hE
  have HNP := blk_ne HZ2.out HO.out.2.1 (by decide)
  have HNI := fun m hm => blk_ne HZ2.out (HO.out.2.2 m hm) (by decide)
  have HZE := (show Blk E w.heap.size 25 #[.slice pa m pc] by rw [hE]; exact HZ2.out.set_ 0 _)
  have HOE := (show OwnP E w1.heap.size (.slice pa m pc) m ms by
    rw [hE]
    exact ⟨HO.out.1, owns_far HO.out.2.1 HNP _, fun m hm => owns_far (HO.out.2.2 m hm) (HNI m hm) _⟩)
  have HGE := (show Grew w E by
    rw [hE]
    exact grew_set (G1.out.trans (HC.out.belowB G1.out.size (fun k hk => by omega))) (Nat.le_refl _) _)
  clear hE HNP HNI
  have k0 := HZE.cell 0
  simp only [List.getElem?_toArray, List.getElem?_cons_zero] at k0
  have kl := HZE.lt
  refine bodyPost_ret (by simp [results, Tryz.results6, go_sem, k0, kl]; try rfl) rfl ?_
  exact ⟨pa, m, pc, _, rfl, PrgIn.of HOE hm5 HM.out, HGE⟩
end Go.Proofs.YtcdfomoglkhboaaGreatDoor

/-
  THE TEXT OF A PROGRAM, plain: the numeral is read as its number; a row of words without spaces, joined by spaces, is split into the same words.
-/
namespace Go.Proofs.YtcdfomoglkhboaaGreatDoor
open Go.Lib

/-! ### Numbers -/

theorem decFrom_append (l r : List UInt8) (acc : Nat) : decFrom acc (l ++ r) = (decFrom acc l).bind fun a => decFrom a r := by
  induction l generalizing acc with
  | nil => rfl
  | cons c l ih =>
    simp only [List.cons_append, decFrom]
    cases digitVal c with
    | none => rfl
    | some d => exact ih _

theorem digitVal_ofNat {d : Nat} (h : d < 10) : digitVal (UInt8.ofNat (48 + d)) = some d := by
  have e : (UInt8.ofNat (48 + d)).toNat = 48 + d := by
    rw [UInt8.toNat_ofNat']; omega
  unfold digitVal
  rw [e, if_pos (by omega)]
  congr 1; omega

theorem decFrom_dec (u : Nat) : decFrom 0 (decDigits u) = some u := by
  induction u using Nat.strongRecOn with
  | ind u ih =>
    by_cases h : u < 10
    · rw [decDigits, dif_pos h]
      simp only [decFrom, digitVal_ofNat h, Nat.zero_mul, Nat.zero_add]
    · rw [decDigits, dif_neg h, decFrom_append, ih (u / 10) (by omega)]
      simp only [Option.bind_some, decFrom, digitVal_ofNat (Nat.mod_lt u (by decide : 0 < 10))]
      congr 1; omega

theorem decDigits_ne (u : Nat) : decDigits u ≠ [] := by
  intro e
  have h1 := decDigits_length u
  have h2 := nDigits_pos u
  rw [e, List.length_nil] at h1
  omega

theorem decDigits_all (u : Nat) : ∀ c ∈ decDigits u, 48 ≤ c.toNat ∧ c.toNat ≤ 57 := by
  intro c hc
  obtain ⟨k, hk⟩ := List.getElem?_of_mem hc
  obtain ⟨d, hd⟩ := digit_of_decFrom _ 0 u (decFrom_dec u) k c hk
  unfold digitVal at hd
  split at hd
  · assumption
  · cases hd

theorem decNat_dec (u : Nat) : decNat (decDigits u) = some u := by
  unfold decNat
  rw [if_neg (by simp [decDigits_ne u])]
  exact decFrom_dec u

/-- A numeral is read as its number. -/
theorem atoi_itoa (n : Int) : atoi (itoa n) = some n := by
  unfold itoa
  by_cases h : n < 0
  · rw [if_pos h]
    simp only [atoi, beq_self_eq_true, if_true]
    rw [decNat_dec]
    simp only [Option.map_some, Option.some.injEq]
    omega
  · rw [if_neg h]
    have hd := decNat_dec n.toNat
    have ha := decDigits_all n.toNat
    cases hx : decDigits n.toNat with
    | nil => exact absurd hx (decDigits_ne _)
    | cons c r =>
      rw [hx] at hd ha
      have hc := ha c (by simp)
      have h1 : ¬ c = 45 := fun e => by rw [e] at hc; exact absurd hc.1 (by decide)
      have h2 : ¬ c = 43 := fun e => by rw [e] at hc; exact absurd hc.1 (by decide)
      simp only [atoi, beq_iff_eq, h1, h2, if_false, hd, Option.map_some, Option.some.injEq]
      omega

/-- A numeral has no space. -/
theorem itoa_noSpace (n : Int) : ∀ c ∈ itoa n, c ≠ 32 := by
  have key : ∀ u, ∀ c ∈ decDigits u, c ≠ 32 := fun u c hc e => by
    have h := decDigits_all u c hc
    rw [e] at h
    exact absurd h.1 (by decide)
  unfold itoa
  split
  · intro c hc
    rcases List.mem_cons.1 hc with e | hc
    · rw [e]; decide
    · exact key _ c hc
  · exact key _

theorem nDigits_le5 {u : Nat} (h : u < 100000) : nDigits u ≤ 5 := by
  by_cases h1 : u < 10
  · rw [nDigits_small h1]; omega
  rw [nDigits_big h1]
  by_cases h2 : u / 10 < 10
  · rw [nDigits_small h2]; omega
  rw [nDigits_big h2]
  by_cases h3 : u / 10 / 10 < 10
  · rw [nDigits_small h3]; omega
  rw [nDigits_big h3]
  by_cases h4 : u / 10 / 10 / 10 < 10
  · rw [nDigits_small h4]; omega
  rw [nDigits_big h4, nDigits_small (by omega)]
  omega

theorem itoa_length {n : Int} (h1 : -100000 < n) (h2 : n < 100000) : (itoa n).length ≤ 6 := by
  unfold itoa
  split
  · have := nDigits_le5 (u := n.natAbs) (by omega)
    rw [List.length_cons, decDigits_length]; omega
  · have := nDigits_le5 (u := n.toNat) (by omega)
    rw [decDigits_length]; omega

/-! ### Words -/

/-- The words of a text, one space between; w is what stands of the first one. -/
def wordsFrom (w : List UInt8) : List UInt8 → List (List UInt8)
  | [] => [w]
  | c :: s => if c = 32 then w :: wordsFrom [] s else wordsFrom (w ++ [c]) s

theorem wordsFrom_word (u : List UInt8) : ∀ (w s : List UInt8), (∀ c ∈ u, c ≠ 32) → wordsFrom w (u ++ s) = wordsFrom (w ++ u) s := by
  induction u with
  | nil => intro w s _; simp
  | cons c u ih =>
    intro w s h
    rw [List.cons_append, wordsFrom, if_neg (h c (by simp)), ih _ _ fun x hx => h x (by simp [hx])]
    simp

theorem wordsFrom_all (w u : List UInt8) (h : ∀ c ∈ u, c ≠ 32) : wordsFrom w u = [w ++ u] := by
  have := wordsFrom_word u w [] h
  rw [List.append_nil] at this
  rw [this]
  rfl

theorem wordsFrom_join (r : List (List UInt8)) : ∀ (x : List UInt8), (∀ u ∈ x :: r, ∀ c ∈ u, c ≠ 32) → wordsFrom [] (join (x :: r) [32]) = x :: r := by
  induction r with
  | nil => intro x h; rw [join_one, wordsFrom_all [] x (h x (by simp))]; rfl
  | cons y r ih =>
    intro x h
    have e : join (x :: y :: r) [32] = x ++ (32 :: join (y :: r) [32]) := by
      rw [join_cons, join_cons]
      simp [joinTail]
    rw [e, wordsFrom_word x [] _ (h x (by simp)), wordsFrom, if_pos rfl, ih y fun u hu => h u (by simp [hu])]
    rfl

/-- strings.Split at one space is these words. -/
theorem split_words (k : Nat) : ∀ s : List UInt8, s.length < k → split s [32] = wordsFrom [] s := by
  induction k with
  | zero => intro s h; omega
  | succ k ih =>
    intro s h
    unfold split
    rcases Int.lt_or_le (index s [32]) 0 with hi | hi
    · have hm : index s [32] = -1 := by have := index_ge s [32]; omega
      rw [count_miss hm]
      have hn := indexByte_none (l := s) (c := 32) (by rw [← index_one]; exact hm)
      rw [wordsFrom_all [] s fun c hc e => by
        obtain ⟨j, hj⟩ := List.getElem?_of_mem hc
        exact hn j (by rw [hj, e])]
      rfl
    · obtain ⟨i, hi'⟩ : ∃ i : Nat, index s [32] = i := ⟨(index s [32]).toNat, by omega⟩
      obtain ⟨h1, h2⟩ := indexByte_some (l := s) (c := 32) (o := i) (by rw [← index_one]; exact hi')
      have hlt : i < s.length := (List.getElem?_eq_some_iff.1 h1).1
      rw [count_hit (by simp) hi', Nat.add_comm 1, splitK, if_neg (by rw [hi']; simp), hi']
      have es : s = s.take i ++ 32 :: s.drop (i + 1) := by
        have e1 := (List.take_append_drop i s).symm
        have e2 : s.drop i = 32 :: s.drop (i + 1) := by
          rw [List.drop_eq_getElem_cons hlt]
          congr 1
          exact (List.getElem?_eq_some_iff.1 h1).2
        rw [e2] at e1
        exact e1
      have et : wordsFrom [] s = s.take i :: wordsFrom [] (s.drop (i + 1)) := by
        conv => lhs; rw [es]
        rw [wordsFrom_word _ _ _ fun c hc e => by
          obtain ⟨j, hj⟩ := List.getElem?_of_mem hc
          have hj' : j < i := by
            have := (List.getElem?_eq_some_iff.1 hj).1
            rw [List.length_take] at this; omega
          rw [List.getElem?_take_of_lt hj'] at hj
          exact h2 j hj' (by rw [hj, e])]
        rw [wordsFrom, if_pos rfl]
        rfl
      have := ih (s.drop (i + 1)) (by rw [List.length_drop]; omega)
      unfold split at this
      rw [et, ← this]
      simp

theorem split_join (x : List UInt8) (r : List (List UInt8)) (h : ∀ u ∈ x :: r, ∀ c ∈ u, c ≠ 32) : split (join (x :: r) [32]) [32] = x :: r := by
  rw [split_words _ _ (Nat.lt_succ_self _), wordsFrom_join r x h]

/-- A text that is a row's join has that row's words. -/
theorem wordsFrom_ne (s : List UInt8) : ∀ w, wordsFrom w s ≠ [] := by
  induction s with
  | nil => intro w e; cases e
  | cons c s ih =>
    intro w
    rw [wordsFrom]
    split
    · intro e; cases e
    · exact ih _

end Go.Proofs.YtcdfomoglkhboaaGreatDoor

/-
  THE TEXT OF AN INSTRUCTION, plain: its words, and that both readers read the words of one that is ok as it.
-/
namespace Go.Proofs.YtcdfomoglkhboaaGreatDoor
open Go.Lib

def varT (k : Int) : List UInt8 := [UInt8.ofNat (97 + k.toNat)]
def relT (r : Int) : List UInt8 := if r = 1 then [60] else if r = 2 then [60, 61] else if r = 3 then [61] else if r = 4 then [33, 61] else []
/-- The word of a kind. -/
def nameT (o : Int) : List UInt8 :=
  if o = 1 then [97, 100, 100] else if o = 2 then [115, 117, 98] else if o = 3 then [109, 117, 108] else if o = 4 then [100, 105, 118]
  else if o = 5 then [97, 110, 121] else if o = 6 then [108, 111, 97, 100] else if o = 7 then [115, 116, 111, 114, 101] else if o = 8 then [105, 102]
  else if o = 9 then [106, 117, 109, 112] else if o = 10 then [99, 97, 108, 108] else if o = 11 then [97, 115, 115, 101, 114, 116] else if o = 12 then [114, 101, 116] else []
def setT : List UInt8 := [115, 101, 116]

/-- The words of an instruction that is ok. -/
def wordsI (i : Ins) : List (List UInt8) :=
  if i.op = 5 then (if i.lo = i.hi then [setT, varT i.d, itoa i.lo] else [nameT 5, varT i.d, itoa i.lo, itoa i.hi])
  else if i.op = 6 then [nameT 6, varT i.d, varT i.a]
  else if i.op = 7 then [nameT 7, varT i.a, varT i.b]
  else if i.op = 8 then [nameT 8, varT i.a, relT i.rel, varT i.b, itoa i.to]
  else if i.op = 9 then [nameT 9, itoa i.to]
  else if i.op = 10 then [nameT 10, varT i.d, itoa i.to, varT i.a]
  else if i.op = 11 then [nameT 11, varT i.a, relT i.rel, varT i.b]
  else if i.op = 12 then [nameT 12, varT i.a]
  else [nameT i.op, varT i.d, varT i.a, varT i.b]
def textI (i : Ins) : List UInt8 := join (wordsI i) [32]

/-- A number of the program. -/
def numOkB (n : Int) : Bool := decide (-32768 ≤ n) && decide (n ≤ 32767)
/-- What a text is read as, if it is a number's. -/
def readN (s : List UInt8) : Option Int := match atoi s with
  | some n => if numOkB n && decide (itoa n = s) then some n else none
  | none => none

theorem readN_some {s : List UInt8} {n : Int} : readN s = some n ↔ numOkB n = true ∧ itoa n = s := by
  unfold readN
  constructor
  · intro h
    cases ha : atoi s with
    | none => rw [ha] at h; cases h
    | some m =>
      rw [ha] at h
      simp only at h
      split at h
      · rename_i hc
        simp only [Bool.and_eq_true, decide_eq_true_eq] at hc
        injection h with h
        rw [← h]; exact hc
      · cases h
  · rintro ⟨h1, rfl⟩
    rw [atoi_itoa]
    simp [h1]

theorem readN_itoa {n : Int} (h : numOkB n = true) : readN (itoa n) = some n := readN_some.2 ⟨h, rfl⟩

/-! ### The reference's reader -/

def atS (ws : List (List UInt8)) (k : Nat) : List UInt8 := ws.getD k []
theorem var4 {k : Int} (h : varB k = true) : k = 0 ∨ k = 1 ∨ k = 2 ∨ k = 3 := by
  simp only [varB, Bool.and_eq_true, decide_eq_true_eq] at h
  omega
/-- What is wanted of an instruction that is read: it is ok, and its place is a number of the program. -/
structure Rdable (i : Ins) : Prop where
  head : headB i = true
  rel : i.op = 8 ∨ i.op = 11 → 1 ≤ i.rel ∧ i.rel ≤ 4
  lo : i.op = 5 → numOkB i.lo = true ∧ numOkB i.hi = true
  to : i.op = 8 ∨ i.op = 9 ∨ i.op = 10 → numOkB i.to = true

theorem itvOkB_num {lo hi : Int} (h : itvOkB lo hi = true) : numOkB lo = true ∧ numOkB hi = true := by
  simp only [itvOkB, numOkB, Bool.and_eq_true, decide_eq_true_eq] at h ⊢
  omega

theorem rdable {i : Ins} {procs size : Int} (h : insOkB i procs size = true) (ht : numOkB i.to = true) : Rdable i := by
  simp only [insOkB, Bool.and_eq_true] at h
  obtain ⟨h1, h2⟩ := h
  refine ⟨h1, fun e => ?_, fun e => ?_, fun _ => ht⟩
  · rcases e with e | e <;>
      · simp only [tailB, e] at h2
        simp at h2
        omega
  · simp only [tailB, e] at h2
    exact itvOkB_num (by simpa using h2)

end Go.Proofs.YtcdfomoglkhboaaGreatDoor
