/- The marking of a program. No condition. -/
import Derived.Test.YtcdfomoglkhboaaDoorPrgGlue
namespace Go.Proofs.YtcdfomoglkhboaaDoor
open Go.RowKit
set_option linter.unusedVariables false
attribute [local go_sem] ext_cell ext_frozen ext_lt ext_le ext_le1 lt_s2 lt_s3 lt_s4 lt_s5 lt_s6 ext_lt1 ext_lt2 ext_lt3

theorem own_ne {w : World} {B B2 : Nat} {e e2 : TypeId} {s s2 n n2 : Nat} {v v2 : Value} {xs ys : List Value} (h : w.ownsRow B e s v n xs) (h2 : w.ownsRow B2 e2 s2 v2 n2 ys) (hne : e ≠ e2) {b : Nat} (hb : v.ownBlock = some b) : v2.ownBlock ≠ some b := by
  intro hb2
  rcases h.2 with ⟨rfl, _⟩ | ⟨g, cap, cur, rfl, _, h3, _⟩
  · cases hb
  rcases h2.2 with ⟨rfl, _⟩ | ⟨g', cap', cur', rfl, _, h4, _⟩
  · cases hb2
  simp only [Value.ownBlock, Option.some.injEq] at hb hb2
  subst hb hb2
  rw [h3] at h4
  simp only [Option.some.injEq, Obj.cells.injEq] at h4
  exact hne h4.2.1
theorem own_mark {w w' : World} {B : Nat} {e : TypeId} {s n n2 : Nat} {v v2 : Value} {xs ys zs : List Value} (h : w.ownsRow B e s v n xs) (o : w.ownsRow B e s v2 n2 ys) (o' : w'.ownsRow B e s v2 n2 zs) (c : Chg (fun b => v2.ownBlock = some b) w w') : ∃ xs', w'.ownsRow B e s v n xs' := by
  rcases h.2 with h0 | ⟨g, cap, cur, rfl, hg, h3, h4, h5, h6, h7⟩
  · exact ⟨xs, h.1, .inl h0⟩
  by_cases hb : v2.ownBlock = some g
  · rcases o.2 with ⟨rfl, _⟩ | ⟨g2, cap2, cur2, rfl, _, k3, k4, k5, k6, k7⟩
    · cases hb
    simp only [Value.ownBlock, Option.some.injEq] at hb
    subst hb
    rcases o'.2 with ⟨hx, _⟩ | ⟨g3, cap3, cur3, hx, _, l3, l4, l5, l6, l7⟩
    · simp at hx
    simp only [Value.slice.injEq, Option.some.injEq, Addr.mk.injEq, true_and] at hx
    obtain ⟨⟨rfl, -⟩, rfl⟩ := hx
    rw [h3] at k3
    simp only [Option.some.injEq, Obj.cells.injEq] at k3
    obtain ⟨rfl, -⟩ := k3
    refine ⟨cur3.toList.take (n * s), ?_, .inr ⟨_, cap, cur3, rfl, hg, l3, h4, h5, by rw [l6, ← k6, h6], rfl⟩⟩
    rw [List.length_take, Array.length_toList, l6, ← k6, h6]
    exact Nat.min_eq_left (Nat.mul_le_mul_right _ h4)
  · exact ⟨xs, owns_chg h c (fun b hb' => by simp only [Value.ownBlock, Option.some.injEq] at hb'; subst hb'; exact hb)⟩

/-- The blocks of a copy lie between. -/
def BlkP (B N : Nat) (v : Value) (ms : List (Prc × Value)) : Prop := ∀ b, (v.ownBlock = some b ∨ ∃ m, m ∈ ms ∧ m.2.ownBlock = some b) → B ≤ b ∧ b < N
theorem OwnP.blk {w : World} {B n : Nat} {v : Value} {ms : List (Prc × Value)} (h : OwnP w B v n ms) : BlkP B w.heap.size v ms := by
  rintro b (hb | ⟨m, hm, hb⟩)
  · exact h.2.1.lt b hb
  · exact (h.2.2 m hm).lt b hb
def MInv (w : World) (B N n cap : Nat) (a : Option Addr) (ms : List (Prc × Value)) (wr : World) : Prop :=
  Chg (fun b => B ≤ b ∧ b < N) w wr ∧ (∃ ys, wr.ownsRow B 52 3 (.slice a n cap) n ys ∧ ∀ k m, ms[k]? = some m → ys[k * 3 + 2]? = some m.2) ∧ ∀ m, m ∈ ms → ∃ xs, wr.ownsRow B 25 8 m.2 m.1.code.length xs
theorem prcCells_get : ∀ (ms : List (Prc × Value)) (k : Nat) (m : Prc × Value), ms[k]? = some m → (ms.flatMap prcCells)[k * 3 + 2]? = some m.2
  | [], k, m, h => by simp at h
  | x :: ms, 0, m, h => by
    simp only [List.getElem?_cons_zero, Option.some.injEq] at h
    subst h
    rfl
  | x :: ms, k + 1, m, h => by
    rw [List.getElem?_cons_succ] at h
    rw [List.flatMap_cons, List.getElem?_append_right (by rw [prc_len]; omega), prc_len, show (k + 1) * 3 + 2 - 3 = k * 3 + 2 from by omega]
    exact prcCells_get ms k m h

set_option maxHeartbeats 4000000 in
theorem markPrcProcS (a : Option Addr) (n cap : Nat) (k0 : Nat) (B N : Nat) (ms : List (Prc × Value)) (w : World) (ho : OwnP w B (.slice a n cap) n ms) (hB : BlkP B N (.slice a n cap) ms) (hk0 : k0 ≤ 1000000) (hn : n ≤ 1048576) (hs : ∀ m, m ∈ ms → m.1.code.length ≤ 1048576) :
    Calls Tryd.prog 32 #[.slice a n cap, .int .i64 k0] w fun e w' => (∃ K : Nat, e = .returned (.int .i64 K)) ∧ Chg (fun b => B ≤ b ∧ b < N) w w' := by
  have HML := Lib.hid ho.1
  have HI : Hid (MInv w B N n cap a ms w) := Lib.hid ⟨Chg.refl _ _, ⟨_, ho.2.1, fun k m h => prcCells_get ms k m h⟩, fun m hm => ⟨_, ho.2.2 m hm⟩⟩
  have HB := Lib.hid hB; clear hB
  have HS := Lib.hid hs; clear hs ho
  go_enter Tryd.func32, Tryd.ntmps32
  go_wp2
  go_loopw [1, 5] (fun kk i wr => ∃ k K : Nat, k ≤ n ∧ K ≤ k0 + k * 8388610 ∧ i = .int .i64 k ∧ kk = .int .i64 K ∧ MInv w B N n cap a ms wr) (fun _ i _ => n - (intOf i).toNat)
  case atStart => exact ⟨0, k0, Nat.zero_le _, by omega, rfl, rfl, HI.out⟩
  case round =>
    clear HI
    obtain ⟨k, K, hk, hK, rfl, rfl, hg, ⟨ys, how, hys⟩, hcs⟩ := hrel
    have hKb : K ≤ 11000000000000 := by omega
    have HK := Lib.hid hK; clear hK
    by_cases hlt : k < n
    · obtain ⟨g, rfl⟩ : ∃ g, a = some ⟨g, 0, none⟩ := by
        rcases how.2 with ⟨h1, h2⟩ | ⟨g, cap', cur, h1, _⟩
        · omega
        · simp only [Value.slice.injEq] at h1
          exact ⟨g, h1.1⟩
      obtain ⟨m, hm⟩ : ∃ m, ms[k]? = some m := ⟨_, List.getElem?_eq_getElem (by have := HML.out; omega)⟩
      have hmm : m ∈ ms := List.mem_of_getElem? hm
      obtain ⟨xs, hox⟩ := hcs m hmm
      have hls := HS.out m hmm
      obtain ⟨p, v⟩ := m
      obtain ⟨lo, hi, is⟩ := p
      dsimp only at hox hls
      obtain ⟨ia, ic, rfl⟩ := owns_slice hox
      have e2 : wr.cell? ⟨g, k * 3 + 2, none⟩ = some (.slice ia is.length ic) := (how.cellAt (k * 3 + 2) (by have := how.1; omega)).trans (hys k _ hm)
      obtain ⟨y0, e0⟩ := own_some how (j := k * 3) (by omega)
      obtain ⟨y1, e1⟩ := own_some how (j := k * 3 + 1) (by omega)
      have f0 := fun j => how.frozenAt j
      have HM := Lib.hid hm; clear hm
      have HY := Lib.hid hys; clear hys
      have HC := Lib.hid hcs; clear hcs
      have HG := Lib.hid hg; clear hg
      have HW := Lib.hid how; clear how
      have HX := Lib.hid hox; clear hox
      obtain ⟨K1, hK1⟩ : ∃ K1 : Nat, K1 = K + 1 := ⟨_, rfl⟩
      obtain ⟨K2, hK2⟩ : ∃ K2 : Nat, K2 = K + 2 := ⟨_, rfl⟩
      have w1 : IntKind.i64.wrap ((K : Int) + 1) = (K1 : Int) := by rw [show (K : Int) + 1 = (K1 : Int) from by omega]; first | exact IntWalk.i64_in (by omega) (by omega) | exact IntWalk.i64_in _ (by omega) (by omega) | go_unwrap
      have w2 : IntKind.i64.wrap ((K1 : Int) + 1) = (K2 : Int) := by rw [show (K1 : Int) + 1 = (K2 : Int) from by omega]; first | exact IntWalk.i64_in (by omega) (by omega) | exact IntWalk.i64_in _ (by omega) (by omega) | go_unwrap
      have hKb2 : K2 ≤ 11000000000002 := by omega
      have HK2 := Lib.hid hK2; clear hK2
      have HK1 := Lib.hid hK1; clear hK1
      obtain ⟨ho', hg'⟩ := own_sets ([.int .i64 (K : Int), .int .i64 (K1 : Int)]) _ _ (k * 3) HW.out
      have HO' := Lib.hid ho'; clear ho'
      have HG' := Lib.hid hg'; clear hg'
      go_wp2_with fail
      have hgi : ∀ b, (some g : Option Nat) = some b → (Value.slice ia is.length ic).ownBlock ≠ some b := fun b hb => own_ne HW.out HX.out (by decide) (b := b) (by rw [← hb]; rfl)
      have hox2 := owns_chg HX.out (Chg.of_grownBy HG'.out) (fun b hb hF => hgi b hF hb)
      refine (markInsInsS ia is.length ic K2 xs B _ hox2 (by omega) (by omega)).mono ?_
      rintro e w3 ⟨rfl, o3, c3⟩
      have hnew : MInv w B N n cap (some ⟨g, 0, none⟩) ms w3 := by
        refine ⟨Chg.trans (Chg.trans HG.out (Chg.of_grownBy HG'.out) (fun _ _ h => h) (fun i _ h => ?_)) c3 (fun _ _ h => h) (fun i _ h => ?_), ⟨_, owns_chg HO'.out c3 (fun b hb hF => ?_), fun k' m' hm' => ?_⟩, fun m' hm' => ?_⟩
        · exact HB.out i (.inl (by rw [← h]; rfl))
        · exact HB.out i (.inr ⟨_, List.mem_of_getElem? HM.out, h⟩)
        · exact hgi b hb hF
        · rw [sets_get _ _ _ _ (by rw [HW.out.1]; simp only [List.length_cons, List.length_nil]; omega), if_neg (by simp only [List.length_cons, List.length_nil]; omega)]
          exact HY.out k' m' hm'
        · obtain ⟨xs', hx'⟩ := HC.out m' hm'
          have hx2 := owns_chg hx' (Chg.of_grownBy HG'.out) (fun b hb hF => own_ne HW.out hx' (by decide) (b := b) (by rw [← hF]; rfl) hb)
          exact own_mark hx2 hox2 o3 c3
      have HN := Lib.hid hnew
      clear hnew hgi hox2 o3 c3 e0 e1 e2 f0 HO' HG' HG HC HY HX
      go_wp2
      go_roundw
      case rel => exact ⟨k + 1, K2 + is.length * 8, by omega, by have := HK.out; have := HK2.out; omega, by go_num, rfl, HN.out⟩
      case measure => simp [intOf]; omega
    · have HG := Lib.hid hg; clear hg how hys hcs
      go_wp2
      go_ret
      exact ⟨⟨K, rfl⟩, HG.out⟩

theorem markPrgProg (a : Option Addr) (n cap : Nat) (k0 : Nat) (B N : Nat) (ms : List (Prc × Value)) (w : World) (ho : OwnP w B (.slice a n cap) n ms) (hB : BlkP B N (.slice a n cap) ms) (hk0 : k0 ≤ 1000000) (hn : n ≤ 1048576) (hs : ∀ m, m ∈ ms → m.1.code.length ≤ 1048576) :
    Calls Tryd.prog 14 #[.agg #[.slice a n cap], .int .i64 k0] w fun e w' => ∃ K : Nat, e = .returned (.int .i64 K) ∧ Chg (fun b => B ≤ b ∧ b < N) w w' := by
  have C := markPrcProcS a n cap k0 B N ms (w.alloc (.cells #[.slice a n cap] 36)) (ho.grew (grew_al (Below.refl _ _) _)) hB hk0 hn hs
  have HC := Lib.hid C; clear C ho hB hs
  go_enter Tryd.func14, Tryd.ntmps14
  go_wp2_with fail
  refine HC.out.mono ?_
  rintro e w1 ⟨⟨K, rfl⟩, g1⟩
  have G1 := Lib.hid g1; clear g1
  go_wp2
  go_ret
  exact ⟨K, rfl, (Chg.of_below (F := fun b => B ≤ b ∧ b < N) (grew_al (Below.refl _ _) _)).trans G1.out (fun _ _ h => h) (fun _ _ h => h)⟩
end Go.Proofs.YtcdfomoglkhboaaDoor
