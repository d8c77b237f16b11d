/- Lemmas and walks of this proof, some texts one behind the other. No condition. -/
import Derived.Test.YtpmfpgbpndobpaaGreatSpD
import Derived.Test.YtpmfpgbpndobpaaGreatStepG
import Derived.Test.YtpmfpgbpndobpaaGreatEm
import Derived.Test.YtpmfpgbpndobpaaGreatSums
set_option linter.unusedSimpArgs false
set_option linter.unusedVariables false
/- Rows of places with states: the reference's l7Edge; two rows joined. No condition. -/
namespace Go.Proofs.YtpmfpgbpndobpaaGreat
open Go.RowKit
set_option linter.unusedVariables false
set_option linter.unusedSimpArgs false
attribute [local go_sem] ext_cell ext_frozen ext_lt ext_le ext_le1 lt_s2 lt_s3 lt_s4 lt_s5 lt_s6 ext_lt1 ext_lt2 ext_lt3

/-- Places with states come back, in memory of their own above a bound. -/
def RetEb (es : List Ed) (B : Nat) (w : World) (e : Ending) (w' : World) : Prop := ∃ a c ms, e = .returned (.slice a es.length c) ∧ OwnE w' B (.slice a es.length c) es.length ms ∧ ms.map (·.1) = es ∧ Grew w w'
theorem RetEb.mono {es : List Ed} {B B' : Nat} {w0 w w' : World} {e : Ending} (h : RetEb es B w e w') (hB : B' ≤ B) (g : Grew w0 w) : RetEb es B' w0 e w' := by
  obtain ⟨a, c, ms, h1, h2, h3, h4⟩ := h
  exact ⟨a, c, ms, h1, h2.mono hB, h3, grew_tr g h4⟩
theorem ownE_lit0 {w : World} {B g : Nat} (hB : B ≤ g) (h : Blk w g 55 #[]) : OwnE w B (.slice (some ⟨g, 0, none⟩) 0 0) 0 [] :=
  ⟨rfl, ⟨rfl, .inr ⟨g, 0, #[], rfl, hB, h, by omega, by simp [maxLen], rfl, rfl⟩⟩, fun m hm => by cases hm⟩
theorem ownE_lit1 {w : World} {B g : Nat} (hB : B ≤ g) (e : Ed) (v : Value) (h : Blk w g 55 (esC (e, v)).toArray) (hv : w.ownsRow B 31 2 v e.xs.length (e.xs.flatMap Itv.cells)) : OwnE w B (.slice (some ⟨g, 0, none⟩) 1 1) 1 [(e, v)] :=
  ⟨rfl, ⟨rfl, .inr ⟨g, 1, (esC (e, v)).toArray, rfl, hB, h, by omega, by simp [maxLen], rfl, rfl⟩⟩, fun m hm => by
    simp only [List.mem_cons, List.not_mem_nil, or_false] at hm
    subst hm
    exact hv⟩
/-- Two rows, one behind the other. -/
theorem OwnE.join {w : World} {B n m : Nat} {v : Value} {a : Option Addr} {c : Nat} {ms ns : List (Ed × Value)} (h : OwnE w B v n ms) (h2 : OwnE w B (.slice a m c) m ns) (hn : n + m ≤ 1000) (hB : B ≤ w.heap.size) :
    ∃ a' c' w', (Builtin.append_ #[43, 43] 43 #[v, .slice a m c]).run Tryz.prog w = .ok (.slice a' (n + m) c') w' ∧ OwnE w' B (.slice a' (n + m) c') (n + m) (ms ++ ns) ∧ w.grownBy w' v.ownBlock := by
  obtain ⟨v', w', hr, ho, hg, _⟩ := owns_append (P := Tryz.prog) w esEl h.2.1 a m c (ns.flatMap esC) (owns_rd h2.2.1) (by
    intro u hu
    obtain ⟨x, hx, hu⟩ := List.mem_flatMap.1 hu
    obtain ⟨a3, c3, hv3⟩ := owns_slice (h2.2.2 x hx)
    simp only [esC, List.mem_cons, List.not_mem_nil, or_false, hv3] at hu
    rcases hu with rfl | rfl | rfl | rfl | rfl <;> rfl) (by omega) (by omega) hB
  obtain ⟨a', c', rfl⟩ := owns_slice ho
  refine ⟨a', c', w', hr, ⟨by rw [List.length_append, h.1, h2.1], by rw [List.flatMap_append]; exact ho, fun x hx => ?_⟩, hg⟩
  have hx' : w.ownsRow B 31 2 x.2 x.1.xs.length (x.1.xs.flatMap Itv.cells) := by
    rcases List.mem_append.1 hx with hx | hx
    · exact h.2.2 x hx
    · exact h2.2.2 x hx
  exact owns_chg hx' (Chg.of_grownBy hg) (fun b hb hF => own_ne h.2.1 hx' (by decide) hF hb)
theorem specL7Edge (to : Int) (o : Option (List Itv × Itv)) (rb c B : Nat) (w : World) (h : ∀ z, o = some z → OwnR w B rb c z.1) (hB : B ≤ w.heap.size) :
    Calls Tryz.prog 114 #[.int .i64 to, stV o rb c] w (RetEb (optA o to) B w) := by
  cases o with
  | none =>
    clear h
    simp only [stV]
    go_enter Tryz.func114, Tryz.ntmps114
    go_wp2
    go_ret
    refine ⟨some ⟨w.heap.size + 1, 0, none⟩, 0, [], rfl, ownE_lit0 (by omega) ?_, rfl, ?_⟩
    · exact Blk.new' (by simp only [World.size_alloc])
    · exact gr
  | some z =>
    obtain ⟨xs, ⟨lo, hi⟩⟩ := z
    have HO := Lib.hid (h _ rfl)
    clear h
    simp only [stV]
    go_enter Tryz.func114, Tryz.ntmps114
    go_wp2
    go_ret
    refine ⟨some ⟨w.heap.size + 1, 0, none⟩, 1, [(⟨to, xs, ⟨lo, hi⟩⟩, .slice (some ⟨rb, 0, none⟩) 4 c)], rfl, ownE_lit1 (by omega) _ _ ?_ ?_, rfl, ?_⟩
    · exact Blk.new' (by simp only [World.size_alloc])
    · have := HO.out.1
      simp only at this ⊢
      rw [this]
      exact owns_grew HO.out.2.2 (gr)
    · exact gr
end Go.Proofs.YtpmfpgbpndobpaaGreat

/- The marking of sums; places with states below a bound; their contracts said of a letter. No condition. -/
namespace Go.Proofs.YtpmfpgbpndobpaaGreat
open Go.RowKit
set_option linter.unusedVariables false
set_option linter.unusedSimpArgs false
attribute [local go_sem] ext_cell ext_frozen ext_lt ext_le ext_le1 lt_s2 lt_s3 lt_s4 lt_s5 lt_s6 ext_lt1 ext_lt2 ext_lt3

set_option maxHeartbeats 4000000 in
theorem markSumSumS (a : Option Addr) (n cap : Nat) (k0 : Nat) (cs : List Value) (B : Nat) (w : World) (ho : w.ownsRow B 52 3 (.slice a n cap) n cs) (hk0 : k0 ≤ 1125899906842624) (hm : n ≤ 1099511627776) :
    Calls Tryz.prog 34 #[.slice a n cap, .int .i64 k0] w fun e w' => e = .returned (.int .i64 ((k0 + n * 3 : Nat) : Int)) ∧
      (∃ ys, w'.ownsRow B 52 3 (.slice a n cap) n ys) ∧ Chg (fun b => (Value.slice a n cap).ownBlock = some b) w w' := by
  have HO := Lib.hid ho; clear ho
  go_enter Tryz.func34, Tryz.ntmps34
  go_wp2
  go_loopw [1, 5] (fun kk i wr => ∃ k K : Nat, k ≤ n ∧ K = k0 + k * 3 ∧ i = .int .i64 k ∧ kk = .int .i64 K ∧ Chg (fun b => (Value.slice a n cap).ownBlock = some b) w wr ∧
    ∃ ys, wr.ownsRow B 52 3 (.slice a n cap) n ys) (fun _ i _ => n - (intOf i).toNat)
  case atStart => exact ⟨0, k0, Nat.zero_le _, by omega, rfl, rfl, Chg.refl _ _, _, HO.out⟩
  case round =>
    obtain ⟨k, K, hk, hK, rfl, rfl, hg, ys, how⟩ := hrel
    have hK1 : K ≤ 1135000000000000000 := by omega
    have HK := Lib.hid hK; clear hK
    by_cases hlt : k < n
    · obtain ⟨g, rfl⟩ : ∃ g, a = some ⟨g, 0, none⟩ := by
        rcases how.2 with ⟨h1, h2⟩ | ⟨g, cap', cur, h1, _⟩
        · omega
        · simp only [Value.slice.injEq] at h1
          exact ⟨g, h1.1⟩
      have HG := Lib.hid hg; clear hg
      have HW := Lib.hid how; clear how
      obtain ⟨y0, e0⟩ := own_some HW.out (j := k * 3) (by omega)
      obtain ⟨y1, e1⟩ := own_some HW.out (j := k * 3 + 1) (by omega)
      obtain ⟨y2, e2⟩ := own_some HW.out (j := k * 3 + 2) (by omega)
      have f0 := fun j => HW.out.frozenAt j
      go_wp2
      go_roundw
      case rel =>
        obtain ⟨ho', hg'⟩ := own_sets ([.bool ((K : Int) % 3 == 0), .int .i64 ((K : Int) + 1), .int .i64 ((K : Int) + 1 + 1)]) _ _ (k * 3) HW.out
        refine ⟨k + 1, K + 3, by omega, by have := HK.out; omega, by go_num, by go_num, (HG.out.trans (Chg.of_grownBy hg') (fun _ _ h => h) (fun i _ h => h)), _, ho'⟩
      case measure => simp [intOf]; omega
    · obtain rfl : k = n := by omega
      have HW := Lib.hid how; clear how
      have HG := Lib.hid hg; clear hg
      go_wp2
      go_ret
      exact ⟨by rw [HK.out]; rfl, ⟨_, HW.out⟩, HG.out⟩
/-- Such a row whose blocks all lie below N. -/
structure OwnEN (w : World) (B N : Nat) (v : Value) (n : Nat) (ms : List (Ed × Value)) : Prop where
  o : OwnE w B v n ms
  t : ∀ b, v.ownBlock = some b → b < N
  r : ∀ m, m ∈ ms → ∀ b, m.2.ownBlock = some b → b < N
section
variable {w w' : World} {B N n : Nat} {v : Value} {ms : List (Ed × Value)}
theorem OwnEN.of (h : OwnE w B v n ms) : OwnEN w B w.heap.size v n ms := ⟨h, fun b e => (h.2.1.lt b e).2, fun m hm b e => ((h.2.2 m hm).lt b e).2⟩
theorem OwnEN.chg {F : Nat → Prop} (h : OwnEN w B N v n ms) (c : Chg F w w') (hF : ∀ b, B ≤ b → b < N → ¬ F b) : OwnEN w' B N v n ms :=
  ⟨⟨h.o.1, owns_chg h.o.2.1 c (fun b hb => hF b (h.o.2.1.lt b hb).1 (h.t b hb)), fun m hm => owns_chg (h.o.2.2 m hm) c (fun b hb => hF b ((h.o.2.2 m hm).lt b hb).1 (h.r m hm b hb))⟩, h.t, h.r⟩
theorem OwnEN.grew (h : OwnEN w B N v n ms) (g : Grew w w') : OwnEN w' B N v n ms := h.chg (Chg.of_below (F := fun _ => False) g) (fun _ _ _ e => e)
theorem OwnG.ofN (h : OwnEN w B N v n ms) (hap : Apart ms) (h4 : ∀ m, m ∈ ms → m.1.xs.length = 4) : OwnG w B N v (ms.map egOf) :=
  ⟨(OwnG.of h.o hap h4).top, (OwnG.of h.o hap h4).each, (OwnG.of h.o hap h4).apart, h.t, fun g hg b hb => by
    obtain ⟨m, hm, rfl⟩ := List.mem_map.1 hg
    exact h.r m hm b hb⟩
end
theorem retEs_S {P : Program} {f : FuncId} {args : Array Value} {w : World} {L S : List Ed} (h : Calls P f args w (RetEs L w)) (e : L = S) : Calls P f args w (RetEs S w) := e ▸ h
theorem retEa_S {P : Program} {f : FuncId} {args : Array Value} {w : World} {L S : List Ed} (h : Calls P f args w (RetEa L w)) (e : L = S) : Calls P f args w (RetEa S w) := e ▸ h
theorem stepL_two (ps : List Prc) (ss : List Sum) (i : Ins) (pc : Int) (on : Bool) (xs : List Itv) (lo hi : Int) : (stepL ps ss i pc on xs lo hi).length ≤ 2 := by
  unfold stepL
  split
  · exact edges_two _ _ _ _ _ _
  · simp
theorem stepL_four {ps : List Prc} {ss : List Sum} {i : Ins} {pc : Int} {on : Bool} {xs : List Itv} {lo hi : Int} : ∀ e, e ∈ stepL ps ss i pc on xs lo hi → e.xs.length = 4 := by
  intro e he
  unfold stepL at he
  split at he
  · rename_i h
    rw [edges_len he]
    simp only [stepB, Bool.and_eq_true] at h
    obtain ⟨⟨h1, rfl⟩, -⟩ := h
    exact (stOk_parts h1).1
  · cases he
end Go.Proofs.YtpmfpgbpndobpaaGreat
